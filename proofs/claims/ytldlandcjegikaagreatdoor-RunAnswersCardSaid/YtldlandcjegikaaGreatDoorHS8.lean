/- Texts that serve many laws, one behind the other. -/
import Derived.Test.YtldlandcjegikaaGreatDoorHK2
import Derived.Test.YtldlandcjegikaaGreatDoorHLabel
set_option linter.unusedVariables false
set_option linter.unusedSimpArgs false
namespace Go.Proofs.YtldlandcjegikaaGreatDoor

section
open Go.RowKit
theorem r_Leap (y : Int) (w : World) (h1 : 1 ≤ y) (h2 : y ≤ 9999) : Calls Tryz.prog 116 #[.int .i64 y] w fun e w' => e = .returned (.bool (leapB y)) ∧ w = w' := by
 go_enter Tryz.func116, Tryz.ntmps116
 go_wp2
 all_goals (go_ret; exact ⟨ret_bool (by unfold leapB; first | (simp [*]; done) | (by_cases a : y % 4 = 0 <;> by_cases b : y % 100 = 0 <;> by_cases c : y % 400 = 0 <;> simp [a, b, c] <;> omega)), rfl⟩)
theorem r_Days (y m : Int) (w : World) (h1 : 1970 ≤ y) (h2 : y ≤ 2199) (h3 : 1 ≤ m) (h4 : m ≤ 12) : Calls Tryz.prog 86 #[.int .i64 y, .int .i64 m] w fun e w' => e = .returned (.int .i64 (daysD y m)) ∧ w = w' := by
 have C0 := Lib.hid (fun w => r_Leap y w (by omega) (by omega))
 have hc : m = 1 ∨ m = 2 ∨ m = 3 ∨ m = 4 ∨ m = 5 ∨ m = 6 ∨ m = 7 ∨ m = 8 ∨ m = 9 ∨ m = 10 ∨ m = 11 ∨ m = 12 := by omega
 rcases hc with rfl | rfl | rfl | rfl | rfl | rfl | rfl | rfl | rfl | rfl | rfl | rfl
 all_goals
  go_enter Tryz.func86, Tryz.ntmps86
  go_wp2_with (go_at_call 116; refine (C0.out _).mono ?_; rintro e w' ⟨rfl, rfl⟩)
 all_goals
  go_ret
  exact ⟨ret_int (by first | rfl | (unfold daysD leapN; simp [*, beforeD])), rfl⟩
theorem r_YearDays (y : Int) (w : World) (h1 : 1 ≤ y) (h2 : y ≤ 9999) : Calls Tryz.prog 85 #[.int .i64 y] w fun e w' => e = .returned (.int .i64 (365 + leapN y)) ∧ w = w' := by
 have C0 := Lib.hid (fun w => r_Leap y w (by omega) (by omega))
 go_enter Tryz.func85, Tryz.ntmps85
 go_wp2_with (go_at_call 116; refine (C0.out _).mono ?_; rintro e w' ⟨rfl, rfl⟩)
 all_goals
  go_ret
  exact ⟨ret_int (by unfold leapN; simp [*]), rfl⟩
theorem firstD_1970 : firstD 1970 = 0 := by decide
end


section
open Go.RowKit
theorem dig_cut (k : Nat) (h : k < 10) : (⟨#[48, 49, 50, 51, 52, 53, 54, 55, 56, 57]⟩ : ByteArray).extract k (k + 1) = ⟨[dgU (k : Int)].toArray⟩ := by
 have hc : k = 0 ∨ k = 1 ∨ k = 2 ∨ k = 3 ∨ k = 4 ∨ k = 5 ∨ k = 6 ∨ k = 7 ∨ k = 8 ∨ k = 9 := by omega
 rcases hc with rfl | rfl | rfl | rfl | rfl | rfl | rfl | rfl | rfl | rfl <;> rfl
set_option maxRecDepth 100000 in
theorem r_Digits1 (n : Int) (w : World) (h0 : 0 ≤ n) (h1 : n ≤ 9) : Calls Tryz.prog 10 #[.int .i64 n] w fun e w' => e = .returned (.string ⟨[dgU n].toArray⟩) ∧ Below w.heap.size w w' := by
 obtain ⟨k, rfl⟩ : ∃ k : Nat, n = k := ⟨n.toNat, by omega⟩
 have hd := Lib.hid (dig_cut k (by omega))
 go_enter Tryz.func10, Tryz.ntmps10
 go_wp2_with fail
 go_ret
 exact ⟨by rw [← hd.out]; rfl, BeL⟩
theorem dgU_mod (n : Int) : dgU (n % 10) = dgU n := by
 apply UInt8.toNat_inj.1
 have := dgU_toNat n
 have := dgU_toNat (n % 10)
 omega
set_option maxRecDepth 100000 in
theorem r_Digits_step (n : Int) (l : List UInt8) (w : World) (h0 : 10 ≤ n) (h1 : n ≤ 99999) (hl : l.length ≤ 8) (C : ∀ w, Calls Tryz.prog 10 #[.int .i64 (n / 10)] w fun e w' => e = .returned (.string ⟨l.toArray⟩) ∧ Below w.heap.size w w') :
  Calls Tryz.prog 10 #[.int .i64 n] w fun e w' => e = .returned (.string ⟨(l ++ [dgU n]).toArray⟩) ∧ Below w.heap.size w w' := by
 obtain ⟨k, ek⟩ : ∃ k : Nat, n % 10 = k := ⟨(n % 10).toNat, by omega⟩
 have hk : k < 10 := by omega
 have hd := dig_cut k hk
 rw [← ek, dgU_mod] at hd
 have HD := Lib.hid hd
 have C := Lib.hid C
 clear hd
 go_enter Tryz.func10, Tryz.ntmps10
 go_wp2_with fail
 (try (go_at_call 10; refine (C.out _).mono ?_; rintro e w1 ⟨rfl, hb1⟩; obtain ⟨hc1, hf1⟩ := bcell hb1; have hz1 := hb1.size; (try simp at hz1); (try have := q00_ w w1); (try have := q02_ w w1); (try have := q03_ w w1); (try have := q10_ w w1); (try have := q12_ w w1); (try have := q13_ w w1); (try have := q20_ w w1); (try have := q22_ w w1); (try have := q23_ w w1); (try have := q30_ w w1); (try have := q32_ w w1); (try have := q33_ w w1); (try go_wp2_with fail)))
 go_ret
 exact ⟨ret_v (by rw [HD.out]; exact congrArg Value.string (ByteArray.ext (by simp [ByteArray.data_append]))), BeL⟩
theorem r_Digits2 (n : Int) (w : World) (h0 : 10 ≤ n) (h1 : n ≤ 99) : Calls Tryz.prog 10 #[.int .i64 n] w fun e w' => e = .returned (.string ⟨(pad2 n).toArray⟩) ∧ Below w.heap.size w w' :=
 r_Digits_step n [dgU (n / 10)] w h0 (by omega) (by simp) (fun w => r_Digits1 (n / 10) w (by omega) (by omega))
theorem r_Digits3 (n : Int) (w : World) (h0 : 100 ≤ n) (h1 : n ≤ 999) : Calls Tryz.prog 10 #[.int .i64 n] w fun e w' => e = .returned (.string ⟨(pad2 (n / 10) ++ [dgU n]).toArray⟩) ∧ Below w.heap.size w w' :=
 r_Digits_step n (pad2 (n / 10)) w (by omega) (by omega) (by simp [pad2]) (fun w => r_Digits2 (n / 10) w (by omega) (by omega))
theorem r_Digits4 (n : Int) (w : World) (h0 : 1000 ≤ n) (h1 : n ≤ 9999) : Calls Tryz.prog 10 #[.int .i64 n] w fun e w' => e = .returned (.string ⟨(pad4 n).toArray⟩) ∧ Below w.heap.size w w' := by
 have h := r_Digits_step n (pad2 (n / 10 / 10) ++ [dgU (n / 10)]) w (by omega) (by omega) (by simp [pad2]) (fun w => r_Digits3 (n / 10) w (by omega) (by omega))
 have e : pad2 (n / 10 / 10) ++ [dgU (n / 10)] ++ [dgU n] = pad4 n := by
  unfold pad2 pad4
  rw [show n / 10 / 10 / 10 = n / 1000 by omega, show n / 10 / 10 = n / 100 by omega]; rfl
 rwa [e] at h
set_option maxRecDepth 100000 in
theorem r_Pad4 (n : Int) (w : World) (h0 : 1000 ≤ n) (h1 : n ≤ 9999) : Calls Tryz.prog 50 #[.int .i64 n, .int .i64 4] w fun e w' => e = .returned (.string ⟨(pad4 n).toArray⟩) ∧ Below w.heap.size w w' := by
 have C := fun w => r_Digits4 n w h0 h1
 obtain ⟨l, el⟩ : ∃ l, pad4 n = l := ⟨_, rfl⟩
 have hl : l.length = 4 := by rw [← el]; rfl
 rw [el] at C ⊢
 have C := Lib.hid C
 clear el
 go_enter Tryz.func50, Tryz.ntmps50
 go_wp2_with fail
 (try (go_at_call 10; refine (C.out _).mono ?_; rintro e w1 ⟨rfl, hb1⟩; obtain ⟨hc1, hf1⟩ := bcell hb1; have hz1 := hb1.size; (try simp at hz1); (try have := q00_ w w1); (try have := q02_ w w1); (try have := q03_ w w1); (try have := q10_ w w1); (try have := q12_ w w1); (try have := q13_ w w1); (try have := q20_ w w1); (try have := q22_ w w1); (try have := q23_ w w1); (try have := q30_ w w1); (try have := q32_ w w1); (try have := q33_ w w1); (try go_wp2_with fail)))
 refine wp_loop_rounds 1 ?_
 rw [rounds_succ]
 go_wp2_with fail
 go_ret
 exact ⟨rfl, BeL⟩
set_option maxRecDepth 100000 in
theorem r_Pad2 (n : Int) (w : World) (h0 : 0 ≤ n) (h1 : n ≤ 99) : Calls Tryz.prog 50 #[.int .i64 n, .int .i64 2] w fun e w' => e = .returned (.string ⟨(pad2 n).toArray⟩) ∧ Below w.heap.size w w' := by
 by_cases h10 : n < 10
 ·have C := fun w => r_Digits1 n w h0 (by omega)
  obtain ⟨d, ed⟩ : ∃ l, dgU n = l := ⟨_, rfl⟩
  have HV := Lib.hid (show pad2 n = [48, d] by unfold pad2; rw [ed, show n / 10 = 0 by omega]; rfl)
  rw [ed] at C
  have C := Lib.hid C
  clear ed
  go_enter Tryz.func50, Tryz.ntmps50
  go_wp2_with fail
  (try (go_at_call 10; refine (C.out _).mono ?_; rintro e w1 ⟨rfl, hb1⟩; obtain ⟨hc1, hf1⟩ := bcell hb1; have hz1 := hb1.size; (try simp at hz1); (try have := q00_ w w1); (try have := q02_ w w1); (try have := q03_ w w1); (try have := q10_ w w1); (try have := q12_ w w1); (try have := q13_ w w1); (try have := q20_ w w1); (try have := q22_ w w1); (try have := q23_ w w1); (try have := q30_ w w1); (try have := q32_ w w1); (try have := q33_ w w1); (try go_wp2_with fail)))
  refine wp_loop_rounds 2 ?_
  rw [rounds_succ]
  go_wp2_with fail
  rw [rounds_succ]
  go_wp2_with fail
  go_ret
  exact ⟨ret_v (by rw [HV.out]; exact congrArg Value.string (ByteArray.ext (by simp [ByteArray.data_append]))), BeL⟩
 ·have C := fun w => r_Digits2 n w (by omega) h1
  obtain ⟨l, el⟩ : ∃ l, pad2 n = l := ⟨_, rfl⟩
  have hl : l.length = 2 := by rw [← el]; rfl
  rw [el] at C ⊢
  have C := Lib.hid C
  clear el
  go_enter Tryz.func50, Tryz.ntmps50
  go_wp2_with fail
  (try (go_at_call 10; refine (C.out _).mono ?_; rintro e w1 ⟨rfl, hb1⟩; obtain ⟨hc1, hf1⟩ := bcell hb1; have hz1 := hb1.size; (try simp at hz1); (try have := q00_ w w1); (try have := q02_ w w1); (try have := q03_ w w1); (try have := q10_ w w1); (try have := q12_ w w1); (try have := q13_ w w1); (try have := q20_ w w1); (try have := q22_ w w1); (try have := q23_ w w1); (try have := q30_ w w1); (try have := q32_ w w1); (try have := q33_ w w1); (try go_wp2_with fail)))
  refine wp_loop_rounds 1 ?_
  rw [rounds_succ]
  go_wp2_with fail
  go_ret
  exact ⟨rfl, BeL⟩
set_option maxRecDepth 100000 in
theorem r_DateText (y m d : Int) (w : World) (h1 : 1000 ≤ y) (h2 : y ≤ 9999) (h3 : 0 ≤ m) (h4 : m ≤ 99) (h5 : 0 ≤ d) (h6 : d ≤ 99) : Calls Tryz.prog 49 #[.agg #[.int .i64 y, .int .i64 m, .int .i64 d]] w fun e w' => e = .returned (.string ⟨(dateT y m d).toArray⟩) ∧ Below w.heap.size w w' := by
 have C1 := Lib.hid (fun w => r_Pad4 y w h1 h2)
 have C2 := Lib.hid (fun w => r_Pad2 m w h3 h4)
 have C3 := Lib.hid (fun w => r_Pad2 d w h5 h6)
 obtain ⟨s4, e4⟩ : ∃ s, pad4 y = s := ⟨_, rfl⟩
 obtain ⟨s2, e2⟩ : ∃ s, pad2 m = s := ⟨_, rfl⟩
 obtain ⟨s3, e3⟩ : ∃ s, pad2 d = s := ⟨_, rfl⟩
 have HV := Lib.hid (show dateT y m d = s4 ++ (45 :: (s2 ++ (45 :: s3))) by unfold dateT; rw [e4, e2, e3])
 rw [e4] at C1
 rw [e2] at C2
 rw [e3] at C3
 have l4 : s4.length = 4 := by rw [← e4]; rfl
 have l2 : s2.length = 2 := by rw [← e2]; rfl
 have l3 : s3.length = 2 := by rw [← e3]; rfl
 clear e4 e2 e3
 go_enter Tryz.func49, Tryz.ntmps49
 go_wp2_with fail
 (try (go_at_call 50; refine (C1.out _).mono ?_; rintro e w1 ⟨rfl, hb1⟩; obtain ⟨hc1, hf1⟩ := bcell hb1; have hz1 := hb1.size; (try simp at hz1); (try have := q00_ w w1); (try have := q02_ w w1); (try have := q03_ w w1); (try have := q10_ w w1); (try have := q12_ w w1); (try have := q13_ w w1); (try have := q20_ w w1); (try have := q22_ w w1); (try have := q23_ w w1); (try have := q30_ w w1); (try have := q32_ w w1); (try have := q33_ w w1); (try go_wp2_with fail)))
 (try (go_at_call 50; refine (C2.out _).mono ?_; rintro e w2 ⟨rfl, hb2⟩; obtain ⟨hc2, hf2⟩ := bcell hb2; have hz2 := hb2.size; (try simp at hz2); (try have := q00_ w w2); (try have := q02_ w w2); (try have := q03_ w w2); (try have := q10_ w w2); (try have := q12_ w w2); (try have := q13_ w w2); (try have := q20_ w w2); (try have := q22_ w w2); (try have := q23_ w w2); (try have := q30_ w w2); (try have := q32_ w w2); (try have := q33_ w w2); (try have := q00_ w1 w2); (try have := q02_ w1 w2); (try have := q10_ w1 w2); (try have := q12_ w1 w2); (try go_wp2_with fail)))
 (try (go_at_call 50; refine (C3.out _).mono ?_; rintro e w3 ⟨rfl, hb3⟩; obtain ⟨hc3, hf3⟩ := bcell hb3; have hz3 := hb3.size; (try simp at hz3); (try have := q00_ w w3); (try have := q02_ w w3); (try have := q03_ w w3); (try have := q10_ w w3); (try have := q12_ w w3); (try have := q13_ w w3); (try have := q20_ w w3); (try have := q22_ w w3); (try have := q23_ w w3); (try have := q30_ w w3); (try have := q32_ w w3); (try have := q33_ w w3); (try have := q00_ w1 w3); (try have := q02_ w1 w3); (try have := q10_ w1 w3); (try have := q12_ w1 w3); (try have := q00_ w2 w3); (try have := q02_ w2 w3); (try have := q10_ w2 w3); (try have := q12_ w2 w3); (try go_wp2_with fail)))
 go_ret
 exact ⟨ret_v (by rw [HV.out]; exact congrArg Value.string (ByteArray.ext (by simp [ByteArray.data_append]))), BeL⟩
set_option maxRecDepth 100000 in
set_option maxHeartbeats 4000000 in
theorem r_DateOf (n y m d : Int) (w : World) (hd : dateB y m d = true) (hn : numD y m d = n) : Calls Tryz.prog 48 #[.int .i64 n] w fun e w' => e = .returned (.agg #[.int .i64 y, .int .i64 m, .int .i64 d]) ∧ Below w.heap.size w w' := by
 obtain ⟨g1, g2, g3, g4, g5, g6⟩ := dateB_bd hd
 obtain ⟨k1, k2, k3, k4⟩ := date_within hd hn
 have q1 := (firstD_bd (y := y) g1 (by omega))
 have qn : n ≤ 84005 := num_top g2 k2
 have HD := Lib.hid (show d = n - firstD y - aheadD y m + 1 by unfold numD at hn; omega)
 have hA := aheadD_bd y m
 have K1 := Lib.hid k1
 have K2 := Lib.hid k2
 have K3 := Lib.hid k3
 have K4 := Lib.hid k4
 clear hn hd k1 k2 k3 k4
 go_enter Tryz.func48, Tryz.ntmps48
 go_wp2_with fail
 go_loopw [0] (fun nv wr => ∃ y' : Int, 1970 ≤ y' ∧ y' ≤ y ∧ nv = .int .i64 (n - firstD y') ∧ wr = (w.alloc (.cells #[.int .i64 0, .int .i64 0, .int .i64 0] 80)).alloc (.cells #[.int .i64 y', .int .i64 1, .int .i64 0] 80)) (fun _ wr => match wr.cell? ⟨w.heap.size + 1, 0, none⟩ with | some v => (y - intOf v).toNat | none => 0)
 case atStart => exact ⟨1970, by omega, g1, by rw [firstD_1970]; simp, rfl⟩
 case round =>
  obtain ⟨y', r1, r2, rfl, rfl⟩ := hrel
  obtain ⟨fb0, fb1⟩ := firstD_bd r1 (show y' ≤ 2200 by omega)
  have hs := firstD_succ y'
  have hl := leapN_01 y'
  have k1 := K1.out
  have k2 := K2.out
  have hm1 : y' < y → firstD (y' + 1) ≤ firstD y := fun h => first_mono (by omega) (by omega)
  have C0 := fun w => r_YearDays y' w (by omega) (by omega)
  obtain ⟨L, eL⟩ : ∃ F, leapN y' = F := ⟨_, rfl⟩
  by_cases hlt : y' < y
  ·have hm2 := hm1 hlt
   obtain ⟨F, eF⟩ : ∃ F, firstD y' = F := ⟨_, rfl⟩
   rw [eF] at fb0 fb1 hs ⊢
   rw [eL] at C0 hl hs
   have HS := Lib.hid hs
   obtain ⟨hl0, hl1⟩ := hl
   have hc : 365 + L ≤ n - F := by omega
   have C0 := Lib.hid C0
   clear eF eL hs k1 k2 hm1 hm2 q1
   go_wp2_with (go_at_call 85; refine (C0.out _).mono ?_; rintro e w' ⟨rfl, rfl⟩)
   go_roundw
   case rel => exact ⟨y' + 1, by omega, by omega, by rw [HS.out]; congr 1; omega, rfl⟩
   case measure => simp [intOf]; omega
  ·obtain rfl : y' = y := by omega
   obtain ⟨F, eF⟩ : ∃ F, firstD y' = F := ⟨_, rfl⟩
   rw [eF] at fb0 fb1 hs k1 HD ⊢
   rw [eL] at C0 hl hs
   obtain ⟨hl0, hl1⟩ := hl
   have hc : n - F < 365 + L := by omega
   have K3 := K3.out
   have K4 := K4.out
   rw [eF] at K3 K4
   have K3 := Lib.hid K3
   have K4 := Lib.hid K4
   have C0 := Lib.hid C0
   clear eF eL hs k2 hm1 hlt r1 r2 q1
   go_wp2_with (go_at_call 85; refine (C0.out _).mono ?_; rintro e w' ⟨rfl, rfl⟩)
   clear hc hl0 hl1 C0
   go_loopw [0] (fun nv wr => ∃ m' : Int, 1 ≤ m' ∧ m' ≤ m ∧ nv = .int .i64 (n - F - aheadD y' m') ∧ wr = (w.alloc (.cells #[.int .i64 0, .int .i64 0, .int .i64 0] 80)).alloc (.cells #[.int .i64 y', .int .i64 m', .int .i64 0] 80)) (fun _ wr => match wr.cell? ⟨w.heap.size + 1, 1, none⟩ with | some v => (m - intOf v).toNat | none => 0)
   case atStart => exact ⟨1, by omega, g3, by rw [ahead_1]; simp, rfl⟩
   case round =>
    obtain ⟨m', r1, r2, rfl, rfl⟩ := hrel
    obtain ⟨a0, a1⟩ := aheadD_bd y' m'
    have hs := aheadD_succ y' m' (by omega) (by omega)
    obtain ⟨hl0, hl1⟩ := daysD_bd (y := y') (m := m') (by omega) (by omega)
    have C0 := fun w => r_Days y' m' w (by omega) (by omega) (by omega) (by omega)
    have k3 := K3.out
    have k4 := K4.out
    have hm1 : m' < m → aheadD y' (m' + 1) ≤ aheadD y' m := fun h => ahead_mono (by omega) (by omega) (by omega)
    obtain ⟨L, eL⟩ : ∃ F, daysD y' m' = F := ⟨_, rfl⟩
    by_cases hlt : m' < m
    ·have hm2 := hm1 hlt
     obtain ⟨G, eG⟩ : ∃ F, aheadD y' m' = F := ⟨_, rfl⟩
     rw [eG] at a0 a1 hs ⊢
     rw [eL] at C0 hl0 hl1 hs
     have HS := Lib.hid hs
     have hc : L ≤ n - F - G := by omega
     have C0 := Lib.hid C0
     clear eG eL hs k3 k4 hm1 hm2 hA
     go_wp2_with (go_at_call 86; refine (C0.out _).mono ?_; rintro e w' ⟨rfl, rfl⟩)
     go_roundw
     case rel => exact ⟨m' + 1, by omega, by omega, by rw [HS.out]; congr 1; omega, rfl⟩
     case measure => simp [intOf]; omega
    ·obtain rfl : m' = m := by omega
     obtain ⟨G, eG⟩ : ∃ F, aheadD y' m' = F := ⟨_, rfl⟩
     rw [eG] at a0 a1 hs k3 HD ⊢
     rw [eL] at C0 hl0 hl1 hs
     have hc : n - F - G < L := by omega
     have C0 := Lib.hid C0
     clear eG eL hs k4 hm1 hlt r1 r2 hA
     go_wp2_with (go_at_call 86; refine (C0.out _).mono ?_; rintro e w' ⟨rfl, rfl⟩)
     refine bodyPost_ret (v := .agg #[.int .i64 y', .int .i64 m', .int .i64 (n - F - G + 1)]) (by simp [results, Tryz.results48, go_sem]) rfl ⟨ret_v (by rw [HD.out]), ?_⟩
     exact BeL
end


section
open Go.RowKit
theorem longL_at (l : List RLeap) (d : Int) : longL l d = 86400 + atL l d := by unfold longL; have := beginL_succ l d; omega
set_option maxRecDepth 100000 in
set_option maxHeartbeats 4000000 in
theorem r_Long (A : Option Addr) (n c : Nat) (zs : List RLeap) (d : Int) (w : World) (h : IsRecs w RLeap.cells RLeap.ok 2 A n c zs) (hg : LeapGood zs) :
  Calls Tryz.prog 115 #[.slice A n c, .int .i64 d] w fun e w' => e = .returned (.int .i64 (longL zs d)) ∧ w = w' := by
 obtain ⟨h1, h2, h3, h4, h5⟩ := h
 unfold maxLen at h3
 have hn : n ≤ 20 := by have := hg.len; omega
 have H1 := Lib.hid h1
 have H5 := Lib.hid h5
 have HG := Lib.hid hg
 clear h1 h4 h5 hg
 go_enter Tryz.func115, Tryz.ntmps115
 go_wp2_with fail
 go_loop [5] (fun iv => ∃ i : Nat, i ≤ n ∧ iv = .int .i64 i ∧ ∀ (j : Nat) x, j < i → zs[j]? = some x → x.day ≠ d) (fun iv => n - (intOf iv).toNat)
 case atStart => exact ⟨0, by omega, rfl, fun j x hj => by omega⟩
 case round =>
  obtain ⟨i, hi, rfl, hI⟩ := hrel
  have HI := Lib.hid hI
  clear hI
  by_cases d1 : i < n
  ·obtain ⟨b, off, rfl, hbl, hc⟩ := H5.out (by omega)
   obtain ⟨z, hz⟩ : ∃ z, zs[i]? = some z := ⟨_, List.getElem?_eq_getElem (by rw [H1.out]; omega)⟩
   have x0 := hc i z hz 0 _ rfl
   have x1 := hc i z hz 1 _ rfl
   simp only [Nat.add_zero] at x0
   have HZ := Lib.hid hz
   by_cases d2 : z.day = d
   ·have hv : longL zs d = 86400 + byL z := by rw [longL_at, ← d2, atL_mem HG.out (List.mem_of_getElem? HZ.out)]
    obtain ⟨day, up⟩ := z
    dsimp only at *
    subst d2
    cases up
    ·have HV := Lib.hid (show longL zs day = 86399 from hv)
     clear hv hz hc
     go_wp2_with fail
     go_ret
     exact ⟨by rw [HV.out]; rfl, rfl⟩
    ·have HV := Lib.hid (show longL zs day = 86401 from hv)
     clear hv hz hc
     go_wp2_with fail
     go_ret
     exact ⟨by rw [HV.out]; rfl, rfl⟩
   ·have d3 : (z.day == d) = false := by simpa using d2
    have HD := Lib.hid d2
    clear hz hc d2
    go_wp2_with fail
    go_round
    case rel => exact ⟨i + 1, by omega, by go_num, fun j x hj hx => by
     rcases Nat.lt_or_ge j i with hlt | hge
     ·exact HI.out j x hlt hx
     ·obtain rfl : j = i := by omega
      rw [HZ.out] at hx; cases hx; exact HD.out⟩
    case measure => simp [intOf]; omega
  ·obtain rfl : i = n := by omega
   have HV := Lib.hid (show longL zs d = 86400 by
    rw [longL_at, atL_none HG.out (fun x hx => ?_)]; rfl
    obtain ⟨j, hj⟩ := List.mem_iff_getElem?.1 hx
    exact HI.out j x (by rw [← H1.out]; exact (List.getElem?_eq_some_iff.1 hj).1) hj)
   go_wp2_with fail
   go_ret
   exact ⟨by rw [HV.out]; rfl, rfl⟩
set_option maxRecDepth 100000 in
set_option maxHeartbeats 4000000 in
theorem r_More (A : Option Addr) (n c : Nat) (zs : List RLeap) (d : Int) (w : World) (h : IsRecs w RLeap.cells RLeap.ok 2 A n c zs) (hg : LeapGood zs) :
  Calls Tryz.prog 84 #[.slice A n c, .int .i64 d] w fun e w' => e = .returned (.int .i64 (moreL zs d)) ∧ w = w' := by
 have C1 := Lib.hid (fun d => r_Long A n c zs d w h hg)
 obtain ⟨h1, h2, h3, h4, h5⟩ := h
 unfold maxLen at h3
 have hn : n ≤ 20 := by have := hg.len; omega
 have H1 := Lib.hid h1
 have H5 := Lib.hid h5
 have HG := Lib.hid hg
 clear h1 h4 h5 hg
 go_enter Tryz.func84, Tryz.ntmps84
 go_wp2_with fail
 go_loop [5, 6] (fun nv iv => ∃ (i : Nat), i ≤ n ∧ iv = .int .i64 i ∧ nv = .int .i64 (moreL (zs.take i) d)) (fun _ iv => n - (intOf iv).toNat)
 case atStart => exact ⟨0, by omega, rfl, by simp [moreL]⟩
 case round =>
  obtain ⟨i, hi, rfl, rfl⟩ := hrel
  obtain ⟨q1, q2⟩ := moreL_take_bd zs i d (by rw [H1.out]; omega)
  by_cases d1 : i < n
  ·obtain ⟨b, off, rfl, hbl, hc⟩ := H5.out (by omega)
   obtain ⟨z, hz⟩ : ∃ z, zs[i]? = some z := ⟨_, List.getElem?_eq_getElem (by rw [H1.out]; omega)⟩
   have x0 := hc i z hz 0 _ rfl
   simp only [Nat.add_zero] at x0
   have HS := Lib.hid (moreL_take_succ hz d)
   have hb1 := byL_bd z
   obtain ⟨m0, e0⟩ : ∃ m0, moreL (zs.take i) d = m0 := ⟨_, rfl⟩
   rw [e0] at q1 q2 HS ⊢
   have C2 := C1.out z.day
   rw [longL_at, atL_mem HG.out (List.mem_of_getElem? hz)] at C2
   obtain ⟨y, ey⟩ : ∃ y, byL z = y := ⟨_, rfl⟩
   rw [ey] at hb1 C2
   obtain ⟨y1, y2⟩ := hb1
   have C2 := Lib.hid C2
   have HY := Lib.hid ey
   obtain ⟨D, eD⟩ : ∃ D, z.day = D := ⟨_, rfl⟩
   rw [eD] at x0 C2 HS
   clear hc hz e0 ey eD
   by_cases d2 : D < d
   ·go_wp2_with (go_at_call 115; refine C2.out.mono ?_; rintro e w' ⟨rfl, rfl⟩)
    go_round
    case rel => exact ⟨i + 1, by omega, by go_num, by rw [HS.out, if_pos d2, HY.out]; congr 1; omega⟩
    case measure => simp [intOf]; omega
   ·go_wp2_with fail
    go_round
    case rel => exact ⟨i + 1, by omega, by go_num, by rw [HS.out, if_neg d2, Int.add_zero]⟩
    case measure => simp [intOf]; omega
  ·have : i = n := by omega
   subst this
   go_wp2_with fail
   go_ret
   exact ⟨ret_int (by rw [List.take_of_length_le (by rw [H1.out]; omega)]), rfl⟩
set_option maxRecDepth 100000 in
theorem r_Begin (A : Option Addr) (n c : Nat) (zs : List RLeap) (d : Int) (w : World) (h : IsRecs w RLeap.cells RLeap.ok 2 A n c zs) (hg : LeapGood zs) (h0 : -100000 ≤ d) (h1 : d ≤ 100000) :
  Calls Tryz.prog 47 #[.slice A n c, .int .i64 d] w fun e w' => e = .returned (.int .i64 (beginL zs d)) ∧ w = w' := by
 have C1 := r_More A n c zs d w h hg
 have q := moreL_bd zs d
 have hl := hg.len
 unfold beginL
 obtain ⟨m, em⟩ : ∃ m, moreL zs d = m := ⟨_, rfl⟩
 rw [em] at q C1 ⊢
 obtain ⟨q0, q1⟩ := q
 have q2 : -1000 ≤ m := by omega
 have q3 : m ≤ 1000 := by omega
 have C1 := Lib.hid C1
 clear em q0 q1 hl h hg
 go_enter Tryz.func47, Tryz.ntmps47
 go_wp2_with (go_at_call 84; refine C1.out.mono ?_; rintro e w' ⟨rfl, rfl⟩)
 go_ret
 exact ⟨rfl, rfl⟩
theorem begin_guess {l : List RLeap} (h : LeapGood l) {n : Int} (h0 : 0 ≤ n) : beginL l (n / 86401) ≤ n := by
 have key : ∀ k : Nat, moreL l k ≤ k := by
  intro k
  induction k with
  | zero => have := beginL_0 h; unfold beginL at this; simp at this ⊢; omega
  | succ k ih =>
   have := moreL_succ l k
   have := atL_bd h k
   rw [show ((k + 1 : Nat) : Int) = (k : Int) + 1 by omega]
   omega
 have := key (n / 86401).toNat
 rw [show (((n / 86401).toNat : Nat) : Int) = n / 86401 by omega] at this
 unfold beginL; omega
set_option maxRecDepth 100000 in
set_option maxHeartbeats 4000000 in
theorem r_DayOf (A : Option Addr) (n c : Nat) (zs : List RLeap) (t d : Int) (w : World) (h : IsRecs w RLeap.cells RLeap.ok 2 A n c zs) (hg : LeapGood zs) (h0 : 0 ≤ d) (h1 : d ≤ 84005) (k1 : beginL zs d ≤ t) (k2 : t < beginL zs (d + 1)) :
  Calls Tryz.prog 46 #[.slice A n c, .int .i64 t] w fun e w' => e = .returned (.int .i64 d) ∧ w = w' := by
 obtain ⟨t0, t1⟩ := n_bd hg h0 h1 k1 k2
 have q0 : t / 86401 ≤ d := by
  have := begin_guess hg t0
  rcases Int.lt_or_le d (t / 86401) with hlt | hle
  ·have := beginL_mono hg (show d + 1 ≤ t / 86401 by omega); omega
  ·exact hle
 have CB := Lib.hid (fun d' a b => r_Begin A n c zs d' w h hg a b)
 have HG := Lib.hid hg
 have K1 := Lib.hid k1
 have K2 := Lib.hid k2
 clear h hg k1 k2
 go_enter Tryz.func46, Tryz.ntmps46
 go_wp2_with fail
 go_loop [5] (fun tv => ∃ d' : Int, 0 ≤ d' ∧ d' ≤ d ∧ tv = .int .i64 d') (fun tv => (d - intOf tv).toNat)
 case atStart => exact ⟨_, by omega, by omega, rfl⟩
 case round =>
  obtain ⟨d', r1, r2, rfl⟩ := hrel
  have C1 := CB.out (d' + 1) (by omega) (by omega)
  obtain ⟨B1, e1⟩ : ∃ B, beginL zs (d' + 1) = B := ⟨_, rfl⟩
  rw [e1] at C1
  have C1 := Lib.hid C1
  by_cases hlt : d' < d
  ·have hb : B1 ≤ t := by
    have := beginL_mono HG.out (show d' + 1 ≤ d by omega)
    have := K1.out
    omega
   clear e1
   go_wp2_with (go_at_call 47; refine C1.out.mono ?_; rintro e w' ⟨rfl, rfl⟩)
   go_round
   case rel => exact ⟨d' + 1, by omega, by omega, rfl⟩
   case measure => simp [intOf]; omega
  ·obtain rfl : d' = d := by omega
   have hb : t < B1 := by rw [← e1]; exact K2.out
   clear e1 hlt
   go_wp2_with (go_at_call 47; refine C1.out.mono ?_; rintro e w' ⟨rfl, rfl⟩)
   go_ret
   exact ⟨rfl, rfl⟩
set_option maxRecDepth 100000 in
set_option maxHeartbeats 4000000 in
theorem r_Utc (A : Option Addr) (n c : Nat) (zs : List RLeap) (t d y m dd : Int) (w : World) (h : IsRecs w RLeap.cells RLeap.ok 2 A n c zs) (hg : LeapGood zs) (h0 : 0 ≤ d) (h1 : d ≤ 84005) (k1 : beginL zs d ≤ t) (k2 : t < beginL zs (d + 1)) (hd : dateB y m dd = true) (hn : numD y m dd = d) :
  Calls Tryz.prog 26 #[.slice A n c, .int .i64 t] w fun e w' => e = .returned (.agg #[.int .i64 y, .int .i64 m, .int .i64 dd, .int .i64 (labH (t - beginL zs d)), .int .i64 (labM (t - beginL zs d)), .int .i64 (labS (t - beginL zs d))]) ∧ Below w.heap.size w w' := by
 have C1 := Lib.hid (fun w' (hb : Below w.heap.size w w') => r_DayOf A n c zs t d w' (h.below hb) hg h0 h1 k1 k2)
 have C2 := fun w' (hb : Below w.heap.size w w') => r_Begin A n c zs d w' (h.below hb) hg (by omega) (by omega)
 have C3 := Lib.hid (fun w => r_DateOf d y m dd w hd hn)
 obtain ⟨t0, t1⟩ := n_bd hg h0 h1 k1 k2
 obtain ⟨s0, s1, _⟩ := sec_bd hg k1 k2
 obtain ⟨B, eB⟩ : ∃ B, beginL zs d = B := ⟨_, rfl⟩
 rw [eB] at C2 s0 s1 k1 ⊢
 have C2 := Lib.hid C2
 obtain ⟨s, es⟩ : ∃ s, t - B = s := ⟨_, rfl⟩
 rw [es] at s0 s1
 have ES := Lib.hid es
 have b0 : B ≤ t := k1
 have b1 : -100 ≤ B := by have := beginL_bd hg d; omega
 have u1 : t - B = s := es
 clear h hg k1 k2 hd hn eB es
 by_cases c0 : s = 86400
 ·have v1 : labH s = 23 := if_pos (by omega)
  have v2 : labM s = 59 := if_pos (by omega)
  have v3 : labS s = 60 := if_pos (by omega)
  rw [ES.out, v1, v2, v3]
  have c1 : (s == 86400) = true := by simpa using c0
  clear v1 v2 v3 c0
  go_enter Tryz.func26, Tryz.ntmps26
  go_wp2_with fail
  refine (C1.out _ BeL).mono ?_
  rintro e w' ⟨rfl, rfl⟩
  go_wp2_with fail
  refine (C2.out _ BeL).mono ?_
  rintro e w' ⟨rfl, rfl⟩
  go_wp2_with fail
  (try (go_at_call 48; refine (C3.out _).mono ?_; rintro e w4 ⟨rfl, hb4⟩; obtain ⟨hc4, hf4⟩ := bcell hb4; have hz4 := hb4.size; (try simp at hz4); (try have := q00_ w w4); (try have := q02_ w w4); (try have := q03_ w w4); (try have := q10_ w w4); (try have := q12_ w w4); (try have := q13_ w w4); (try have := q20_ w w4); (try have := q22_ w w4); (try have := q23_ w w4); (try have := q30_ w w4); (try have := q32_ w w4); (try have := q33_ w w4); (try have := q00_ w1 w4); (try have := q02_ w1 w4); (try have := q10_ w1 w4); (try have := q12_ w1 w4); (try have := q00_ w2 w4); (try have := q02_ w2 w4); (try have := q10_ w2 w4); (try have := q12_ w2 w4); (try have := q00_ w3 w4); (try have := q02_ w3 w4); (try have := q10_ w3 w4); (try have := q12_ w3 w4); (try go_wp2_with fail)))
  have r0 : w4.cell? ⟨w.heap.size, 0, none⟩ = some (.int .i64 0) := (Below.cell (B := (w.alloc (.cells #[.int .i64 0, .int .i64 0, .int .i64 0, .int .i64 0, .int .i64 0, .int .i64 0] 82)).heap.size) (w := w.alloc (.cells #[.int .i64 0, .int .i64 0, .int .i64 0, .int .i64 0, .int .i64 0, .int .i64 0] 82)) BeL (by simp)).trans (by simp); have r1 : w4.cell? ⟨w.heap.size, 1, none⟩ = some (.int .i64 0) := (Below.cell (B := (w.alloc (.cells #[.int .i64 0, .int .i64 0, .int .i64 0, .int .i64 0, .int .i64 0, .int .i64 0] 82)).heap.size) (w := w.alloc (.cells #[.int .i64 0, .int .i64 0, .int .i64 0, .int .i64 0, .int .i64 0, .int .i64 0] 82)) BeL (by simp)).trans (by simp); have r2 : w4.cell? ⟨w.heap.size, 2, none⟩ = some (.int .i64 0) := (Below.cell (B := (w.alloc (.cells #[.int .i64 0, .int .i64 0, .int .i64 0, .int .i64 0, .int .i64 0, .int .i64 0] 82)).heap.size) (w := w.alloc (.cells #[.int .i64 0, .int .i64 0, .int .i64 0, .int .i64 0, .int .i64 0, .int .i64 0] 82)) BeL (by simp)).trans (by simp); have r3 : w4.cell? ⟨w.heap.size, 3, none⟩ = some (.int .i64 0) := (Below.cell (B := (w.alloc (.cells #[.int .i64 0, .int .i64 0, .int .i64 0, .int .i64 0, .int .i64 0, .int .i64 0] 82)).heap.size) (w := w.alloc (.cells #[.int .i64 0, .int .i64 0, .int .i64 0, .int .i64 0, .int .i64 0, .int .i64 0] 82)) BeL (by simp)).trans (by simp); have r4 : w4.cell? ⟨w.heap.size, 4, none⟩ = some (.int .i64 0) := (Below.cell (B := (w.alloc (.cells #[.int .i64 0, .int .i64 0, .int .i64 0, .int .i64 0, .int .i64 0, .int .i64 0] 82)).heap.size) (w := w.alloc (.cells #[.int .i64 0, .int .i64 0, .int .i64 0, .int .i64 0, .int .i64 0, .int .i64 0] 82)) BeL (by simp)).trans (by simp); have r5 : w4.cell? ⟨w.heap.size, 5, none⟩ = some (.int .i64 0) := (Below.cell (B := (w.alloc (.cells #[.int .i64 0, .int .i64 0, .int .i64 0, .int .i64 0, .int .i64 0, .int .i64 0] 82)).heap.size) (w := w.alloc (.cells #[.int .i64 0, .int .i64 0, .int .i64 0, .int .i64 0, .int .i64 0, .int .i64 0] 82)) BeL (by simp)).trans (by simp)
  refine bodyPost_ret (v := (.agg #[.int .i64 y, .int .i64 m, .int .i64 dd, .int .i64 23, .int .i64 59, .int .i64 60])) (by simp [results, Tryz.results26, go_sem, errV, okC, *]) rfl ⟨rfl, ?_⟩; exact BeL
 ·have v1 : labH s = s / 3600 := if_neg (by omega)
  have v2 : labM s = s % 3600 / 60 := by unfold labM; rw [if_neg (by omega)]; omega
  have v3 : labS s = s % 60 := if_neg (by omega)
  rw [ES.out, v1, v2, v3]
  have c1 : (s == 86400) = false := by simpa using c0
  clear v1 v2 v3 c0
  go_enter Tryz.func26, Tryz.ntmps26
  go_wp2_with fail
  refine (C1.out _ BeL).mono ?_
  rintro e w' ⟨rfl, rfl⟩
  go_wp2_with fail
  refine (C2.out _ BeL).mono ?_
  rintro e w' ⟨rfl, rfl⟩
  go_wp2_with fail
  (try (go_at_call 48; refine (C3.out _).mono ?_; rintro e w4 ⟨rfl, hb4⟩; obtain ⟨hc4, hf4⟩ := bcell hb4; have hz4 := hb4.size; (try simp at hz4); (try have := q00_ w w4); (try have := q02_ w w4); (try have := q03_ w w4); (try have := q10_ w w4); (try have := q12_ w w4); (try have := q13_ w w4); (try have := q20_ w w4); (try have := q22_ w w4); (try have := q23_ w w4); (try have := q30_ w w4); (try have := q32_ w w4); (try have := q33_ w w4); (try have := q00_ w1 w4); (try have := q02_ w1 w4); (try have := q10_ w1 w4); (try have := q12_ w1 w4); (try have := q00_ w2 w4); (try have := q02_ w2 w4); (try have := q10_ w2 w4); (try have := q12_ w2 w4); (try have := q00_ w3 w4); (try have := q02_ w3 w4); (try have := q10_ w3 w4); (try have := q12_ w3 w4); (try go_wp2_with fail)))
  have r0 : w4.cell? ⟨w.heap.size, 0, none⟩ = some (.int .i64 0) := (Below.cell (B := (w.alloc (.cells #[.int .i64 0, .int .i64 0, .int .i64 0, .int .i64 0, .int .i64 0, .int .i64 0] 82)).heap.size) (w := w.alloc (.cells #[.int .i64 0, .int .i64 0, .int .i64 0, .int .i64 0, .int .i64 0, .int .i64 0] 82)) BeL (by simp)).trans (by simp); have r1 : w4.cell? ⟨w.heap.size, 1, none⟩ = some (.int .i64 0) := (Below.cell (B := (w.alloc (.cells #[.int .i64 0, .int .i64 0, .int .i64 0, .int .i64 0, .int .i64 0, .int .i64 0] 82)).heap.size) (w := w.alloc (.cells #[.int .i64 0, .int .i64 0, .int .i64 0, .int .i64 0, .int .i64 0, .int .i64 0] 82)) BeL (by simp)).trans (by simp); have r2 : w4.cell? ⟨w.heap.size, 2, none⟩ = some (.int .i64 0) := (Below.cell (B := (w.alloc (.cells #[.int .i64 0, .int .i64 0, .int .i64 0, .int .i64 0, .int .i64 0, .int .i64 0] 82)).heap.size) (w := w.alloc (.cells #[.int .i64 0, .int .i64 0, .int .i64 0, .int .i64 0, .int .i64 0, .int .i64 0] 82)) BeL (by simp)).trans (by simp); have r3 : w4.cell? ⟨w.heap.size, 3, none⟩ = some (.int .i64 0) := (Below.cell (B := (w.alloc (.cells #[.int .i64 0, .int .i64 0, .int .i64 0, .int .i64 0, .int .i64 0, .int .i64 0] 82)).heap.size) (w := w.alloc (.cells #[.int .i64 0, .int .i64 0, .int .i64 0, .int .i64 0, .int .i64 0, .int .i64 0] 82)) BeL (by simp)).trans (by simp); have r4 : w4.cell? ⟨w.heap.size, 4, none⟩ = some (.int .i64 0) := (Below.cell (B := (w.alloc (.cells #[.int .i64 0, .int .i64 0, .int .i64 0, .int .i64 0, .int .i64 0, .int .i64 0] 82)).heap.size) (w := w.alloc (.cells #[.int .i64 0, .int .i64 0, .int .i64 0, .int .i64 0, .int .i64 0, .int .i64 0] 82)) BeL (by simp)).trans (by simp); have r5 : w4.cell? ⟨w.heap.size, 5, none⟩ = some (.int .i64 0) := (Below.cell (B := (w.alloc (.cells #[.int .i64 0, .int .i64 0, .int .i64 0, .int .i64 0, .int .i64 0, .int .i64 0] 82)).heap.size) (w := w.alloc (.cells #[.int .i64 0, .int .i64 0, .int .i64 0, .int .i64 0, .int .i64 0, .int .i64 0] 82)) BeL (by simp)).trans (by simp)
  refine bodyPost_ret (v := (.agg #[.int .i64 y, .int .i64 m, .int .i64 dd, .int .i64 (s / 3600), .int .i64 (s % 3600 / 60), .int .i64 (s % 60)])) (by simp [results, Tryz.results26, go_sem, errV, okC, *]) rfl ⟨rfl, ?_⟩; exact BeL
end


section
open Go.RowKit
end


section
open Go.RowKit
end


section
open Go.RowKit
end
end Go.Proofs.YtldlandcjegikaaGreatDoor
