/- The reference's dates as texts, walked. -/
import Derived.Test.YtcigoleplhdlaaaDoorRCivil
namespace Go.Proofs.YtcigoleplhdlaaaDoor
open Go.RowKit
set_option linter.unusedVariables false
set_option linter.unusedSimpArgs false
theorem dig_cut (k : Nat) (h : k < 10) : (⟨#[48, 49, 50, 51, 52, 53, 54, 55, 56, 57]⟩ : ByteArray).extract k (k + 1) = ⟨[dgU (k : Int)].toArray⟩ := by
  have hc : k = 0 ∨ k = 1 ∨ k = 2 ∨ k = 3 ∨ k = 4 ∨ k = 5 ∨ k = 6 ∨ k = 7 ∨ k = 8 ∨ k = 9 := by omega
  rcases hc with rfl | rfl | rfl | rfl | rfl | rfl | rfl | rfl | rfl | rfl <;> rfl
set_option maxRecDepth 100000 in
theorem r_Digits1 (n : Int) (w : World) (h0 : 0 ≤ n) (h1 : n ≤ 9) : Calls Tryd.prog 64 #[.int .i64 n] w fun e w' => e = .returned (.string ⟨[dgU n].toArray⟩) ∧ Below w.heap.size w w' := by
  obtain ⟨k, rfl⟩ : ∃ k : Nat, n = k := ⟨n.toNat, by omega⟩
  have hd := Lib.hid (dig_cut k (by omega))
  go_enter Tryd.func64, Tryd.ntmps64
  go_wp2_with fail
  go_ret
  exact ⟨by rw [← hd.out]; rfl, (by repeat (first | with_reducible exact Below.refl _ _ | (with_reducible refine Below.alloc ?_ (by first | omega | (simp; done) | (simp; omega)) _) | (with_reducible refine Below.setCell ?_ (by first | omega | (simp; done) | (simp; omega)) _) | (with_reducible refine Below.drew ?_) | (with_reducible refine below_drewN ?_ _) | (with_reducible assumption) | (with_reducible refine bel_step (by with_reducible assumption) ?_ (by first | omega | (simp; done) | (simp; omega)))))⟩
theorem dgU_mod (n : Int) : dgU (n % 10) = dgU n := by
  apply UInt8.toNat_inj.1
  have := dgU_toNat n
  have := dgU_toNat (n % 10)
  omega
set_option maxRecDepth 100000 in
theorem r_Digits_step (n : Int) (l : List UInt8) (w : World) (h0 : 10 ≤ n) (h1 : n ≤ 99999) (hl : l.length ≤ 8) (C : ∀ w, Calls Tryd.prog 64 #[.int .i64 (n / 10)] w fun e w' => e = .returned (.string ⟨l.toArray⟩) ∧ Below w.heap.size w w') :
    Calls Tryd.prog 64 #[.int .i64 n] w fun e w' => e = .returned (.string ⟨(l ++ [dgU n]).toArray⟩) ∧ Below w.heap.size w w' := by
  obtain ⟨k, ek⟩ : ∃ k : Nat, n % 10 = k := ⟨(n % 10).toNat, by omega⟩
  have hk : k < 10 := by omega
  have hd := dig_cut k hk
  rw [← ek, dgU_mod] at hd
  have HD := Lib.hid hd
  have C := Lib.hid C
  clear hd
  go_enter Tryd.func64, Tryd.ntmps64
  go_wp2_with fail
  (try (go_at_call 64; refine (C.out _).mono ?_; rintro e w1 ⟨rfl, hb1⟩; obtain ⟨hc1, hf1⟩ := bcell hb1; have hz1 := hb1.size; (try simp at hz1); (try have q1_0_0_0 : w.heap.size < w1.heap.size := by omega); (try have q1_0_0_2 : w.heap.size < w1.heap.size + 1 + 1 := by omega); (try have q1_0_0_3 : w.heap.size < w1.heap.size + 1 + 1 + 1 := by omega); (try have q1_0_1_0 : w.heap.size + 1 < w1.heap.size := by omega); (try have q1_0_1_2 : w.heap.size + 1 < w1.heap.size + 1 + 1 := by omega); (try have q1_0_1_3 : w.heap.size + 1 < w1.heap.size + 1 + 1 + 1 := by omega); (try have q1_0_2_0 : w.heap.size + 1 + 1 < w1.heap.size := by omega); (try have q1_0_2_2 : w.heap.size + 1 + 1 < w1.heap.size + 1 + 1 := by omega); (try have q1_0_2_3 : w.heap.size + 1 + 1 < w1.heap.size + 1 + 1 + 1 := by omega); (try have q1_0_3_0 : w.heap.size + 1 + 1 + 1 < w1.heap.size := by omega); (try have q1_0_3_2 : w.heap.size + 1 + 1 + 1 < w1.heap.size + 1 + 1 := by omega); (try have q1_0_3_3 : w.heap.size + 1 + 1 + 1 < w1.heap.size + 1 + 1 + 1 := by omega); (try go_wp2_with fail)))
  go_ret
  exact ⟨ret_v (by rw [HD.out]; exact congrArg Value.string (ByteArray.ext (by simp [ByteArray.data_append]))), (by repeat (first | with_reducible exact Below.refl _ _ | (with_reducible refine Below.alloc ?_ (by first | omega | (simp; done) | (simp; omega)) _) | (with_reducible refine Below.setCell ?_ (by first | omega | (simp; done) | (simp; omega)) _) | (with_reducible refine Below.drew ?_) | (with_reducible refine below_drewN ?_ _) | (with_reducible assumption) | (with_reducible refine bel_step (by with_reducible assumption) ?_ (by first | omega | (simp; done) | (simp; omega)))))⟩
theorem r_Digits2 (n : Int) (w : World) (h0 : 10 ≤ n) (h1 : n ≤ 99) : Calls Tryd.prog 64 #[.int .i64 n] w fun e w' => e = .returned (.string ⟨(pad2 n).toArray⟩) ∧ Below w.heap.size w w' :=
  r_Digits_step n [dgU (n / 10)] w h0 (by omega) (by simp) (fun w => r_Digits1 (n / 10) w (by omega) (by omega))
theorem r_Digits3 (n : Int) (w : World) (h0 : 100 ≤ n) (h1 : n ≤ 999) : Calls Tryd.prog 64 #[.int .i64 n] w fun e w' => e = .returned (.string ⟨(pad2 (n / 10) ++ [dgU n]).toArray⟩) ∧ Below w.heap.size w w' :=
  r_Digits_step n (pad2 (n / 10)) w (by omega) (by omega) (by simp [pad2]) (fun w => r_Digits2 (n / 10) w (by omega) (by omega))
theorem r_Digits4 (n : Int) (w : World) (h0 : 1000 ≤ n) (h1 : n ≤ 9999) : Calls Tryd.prog 64 #[.int .i64 n] w fun e w' => e = .returned (.string ⟨(pad4 n).toArray⟩) ∧ Below w.heap.size w w' := by
  have h := r_Digits_step n (pad2 (n / 10 / 10) ++ [dgU (n / 10)]) w (by omega) (by omega) (by simp [pad2]) (fun w => r_Digits3 (n / 10) w (by omega) (by omega))
  have e : pad2 (n / 10 / 10) ++ [dgU (n / 10)] ++ [dgU n] = pad4 n := by
    unfold pad2 pad4
    rw [show n / 10 / 10 / 10 = n / 1000 by omega, show n / 10 / 10 = n / 100 by omega]; rfl
  rwa [e] at h
set_option maxRecDepth 100000 in
theorem r_Pad4 (n : Int) (w : World) (h0 : 1000 ≤ n) (h1 : n ≤ 9999) : Calls Tryd.prog 55 #[.int .i64 n, .int .i64 4] w fun e w' => e = .returned (.string ⟨(pad4 n).toArray⟩) ∧ Below w.heap.size w w' := by
  have C := fun w => r_Digits4 n w h0 h1
  obtain ⟨l, el⟩ : ∃ l, pad4 n = l := ⟨_, rfl⟩
  have hl : l.length = 4 := by rw [← el]; rfl
  rw [el] at C ⊢
  have C := Lib.hid C
  clear el
  go_enter Tryd.func55, Tryd.ntmps55
  go_wp2_with fail
  (try (go_at_call 64; refine (C.out _).mono ?_; rintro e w1 ⟨rfl, hb1⟩; obtain ⟨hc1, hf1⟩ := bcell hb1; have hz1 := hb1.size; (try simp at hz1); (try have q1_0_0_0 : w.heap.size < w1.heap.size := by omega); (try have q1_0_0_2 : w.heap.size < w1.heap.size + 1 + 1 := by omega); (try have q1_0_0_3 : w.heap.size < w1.heap.size + 1 + 1 + 1 := by omega); (try have q1_0_1_0 : w.heap.size + 1 < w1.heap.size := by omega); (try have q1_0_1_2 : w.heap.size + 1 < w1.heap.size + 1 + 1 := by omega); (try have q1_0_1_3 : w.heap.size + 1 < w1.heap.size + 1 + 1 + 1 := by omega); (try have q1_0_2_0 : w.heap.size + 1 + 1 < w1.heap.size := by omega); (try have q1_0_2_2 : w.heap.size + 1 + 1 < w1.heap.size + 1 + 1 := by omega); (try have q1_0_2_3 : w.heap.size + 1 + 1 < w1.heap.size + 1 + 1 + 1 := by omega); (try have q1_0_3_0 : w.heap.size + 1 + 1 + 1 < w1.heap.size := by omega); (try have q1_0_3_2 : w.heap.size + 1 + 1 + 1 < w1.heap.size + 1 + 1 := by omega); (try have q1_0_3_3 : w.heap.size + 1 + 1 + 1 < w1.heap.size + 1 + 1 + 1 := by omega); (try go_wp2_with fail)))
  refine wp_loop_rounds 1 ?_
  rw [rounds_succ]
  go_wp2_with fail
  go_ret
  exact ⟨rfl, (by repeat (first | with_reducible exact Below.refl _ _ | (with_reducible refine Below.alloc ?_ (by first | omega | (simp; done) | (simp; omega)) _) | (with_reducible refine Below.setCell ?_ (by first | omega | (simp; done) | (simp; omega)) _) | (with_reducible refine Below.drew ?_) | (with_reducible refine below_drewN ?_ _) | (with_reducible assumption) | (with_reducible refine bel_step (by with_reducible assumption) ?_ (by first | omega | (simp; done) | (simp; omega)))))⟩
set_option maxRecDepth 100000 in
theorem r_Pad2 (n : Int) (w : World) (h0 : 0 ≤ n) (h1 : n ≤ 99) : Calls Tryd.prog 55 #[.int .i64 n, .int .i64 2] w fun e w' => e = .returned (.string ⟨(pad2 n).toArray⟩) ∧ Below w.heap.size w w' := by
  by_cases h10 : n < 10
  · have C := fun w => r_Digits1 n w h0 (by omega)
    obtain ⟨d, ed⟩ : ∃ l, dgU n = l := ⟨_, rfl⟩
    have HV := Lib.hid (show pad2 n = [48, d] by unfold pad2; rw [ed, show n / 10 = 0 by omega]; rfl)
    rw [ed] at C
    have C := Lib.hid C
    clear ed
    go_enter Tryd.func55, Tryd.ntmps55
    go_wp2_with fail
    (try (go_at_call 64; refine (C.out _).mono ?_; rintro e w1 ⟨rfl, hb1⟩; obtain ⟨hc1, hf1⟩ := bcell hb1; have hz1 := hb1.size; (try simp at hz1); (try have q1_0_0_0 : w.heap.size < w1.heap.size := by omega); (try have q1_0_0_2 : w.heap.size < w1.heap.size + 1 + 1 := by omega); (try have q1_0_0_3 : w.heap.size < w1.heap.size + 1 + 1 + 1 := by omega); (try have q1_0_1_0 : w.heap.size + 1 < w1.heap.size := by omega); (try have q1_0_1_2 : w.heap.size + 1 < w1.heap.size + 1 + 1 := by omega); (try have q1_0_1_3 : w.heap.size + 1 < w1.heap.size + 1 + 1 + 1 := by omega); (try have q1_0_2_0 : w.heap.size + 1 + 1 < w1.heap.size := by omega); (try have q1_0_2_2 : w.heap.size + 1 + 1 < w1.heap.size + 1 + 1 := by omega); (try have q1_0_2_3 : w.heap.size + 1 + 1 < w1.heap.size + 1 + 1 + 1 := by omega); (try have q1_0_3_0 : w.heap.size + 1 + 1 + 1 < w1.heap.size := by omega); (try have q1_0_3_2 : w.heap.size + 1 + 1 + 1 < w1.heap.size + 1 + 1 := by omega); (try have q1_0_3_3 : w.heap.size + 1 + 1 + 1 < w1.heap.size + 1 + 1 + 1 := by omega); (try go_wp2_with fail)))
    refine wp_loop_rounds 2 ?_
    rw [rounds_succ]
    go_wp2_with fail
    rw [rounds_succ]
    go_wp2_with fail
    go_ret
    exact ⟨ret_v (by rw [HV.out]; exact congrArg Value.string (ByteArray.ext (by simp [ByteArray.data_append]))), (by repeat (first | with_reducible exact Below.refl _ _ | (with_reducible refine Below.alloc ?_ (by first | omega | (simp; done) | (simp; omega)) _) | (with_reducible refine Below.setCell ?_ (by first | omega | (simp; done) | (simp; omega)) _) | (with_reducible refine Below.drew ?_) | (with_reducible refine below_drewN ?_ _) | (with_reducible assumption) | (with_reducible refine bel_step (by with_reducible assumption) ?_ (by first | omega | (simp; done) | (simp; omega)))))⟩
  · have C := fun w => r_Digits2 n w (by omega) h1
    obtain ⟨l, el⟩ : ∃ l, pad2 n = l := ⟨_, rfl⟩
    have hl : l.length = 2 := by rw [← el]; rfl
    rw [el] at C ⊢
    have C := Lib.hid C
    clear el
    go_enter Tryd.func55, Tryd.ntmps55
    go_wp2_with fail
    (try (go_at_call 64; refine (C.out _).mono ?_; rintro e w1 ⟨rfl, hb1⟩; obtain ⟨hc1, hf1⟩ := bcell hb1; have hz1 := hb1.size; (try simp at hz1); (try have q1_0_0_0 : w.heap.size < w1.heap.size := by omega); (try have q1_0_0_2 : w.heap.size < w1.heap.size + 1 + 1 := by omega); (try have q1_0_0_3 : w.heap.size < w1.heap.size + 1 + 1 + 1 := by omega); (try have q1_0_1_0 : w.heap.size + 1 < w1.heap.size := by omega); (try have q1_0_1_2 : w.heap.size + 1 < w1.heap.size + 1 + 1 := by omega); (try have q1_0_1_3 : w.heap.size + 1 < w1.heap.size + 1 + 1 + 1 := by omega); (try have q1_0_2_0 : w.heap.size + 1 + 1 < w1.heap.size := by omega); (try have q1_0_2_2 : w.heap.size + 1 + 1 < w1.heap.size + 1 + 1 := by omega); (try have q1_0_2_3 : w.heap.size + 1 + 1 < w1.heap.size + 1 + 1 + 1 := by omega); (try have q1_0_3_0 : w.heap.size + 1 + 1 + 1 < w1.heap.size := by omega); (try have q1_0_3_2 : w.heap.size + 1 + 1 + 1 < w1.heap.size + 1 + 1 := by omega); (try have q1_0_3_3 : w.heap.size + 1 + 1 + 1 < w1.heap.size + 1 + 1 + 1 := by omega); (try go_wp2_with fail)))
    refine wp_loop_rounds 1 ?_
    rw [rounds_succ]
    go_wp2_with fail
    go_ret
    exact ⟨rfl, (by repeat (first | with_reducible exact Below.refl _ _ | (with_reducible refine Below.alloc ?_ (by first | omega | (simp; done) | (simp; omega)) _) | (with_reducible refine Below.setCell ?_ (by first | omega | (simp; done) | (simp; omega)) _) | (with_reducible refine Below.drew ?_) | (with_reducible refine below_drewN ?_ _) | (with_reducible assumption) | (with_reducible refine bel_step (by with_reducible assumption) ?_ (by first | omega | (simp; done) | (simp; omega)))))⟩
set_option maxRecDepth 100000 in
theorem r_DateText (y m d : Int) (w : World) (h1 : 1000 ≤ y) (h2 : y ≤ 9999) (h3 : 0 ≤ m) (h4 : m ≤ 99) (h5 : 0 ≤ d) (h6 : d ≤ 99) : Calls Tryd.prog 22 #[.agg #[.int .i64 y, .int .i64 m, .int .i64 d]] w fun e w' => e = .returned (.string ⟨(dateT y m d).toArray⟩) ∧ Below w.heap.size w w' := by
  have C1 := Lib.hid (fun w => r_Pad4 y w h1 h2)
  have C2 := Lib.hid (fun w => r_Pad2 m w h3 h4)
  have C3 := Lib.hid (fun w => r_Pad2 d w h5 h6)
  obtain ⟨s4, e4⟩ : ∃ s, pad4 y = s := ⟨_, rfl⟩
  obtain ⟨s2, e2⟩ : ∃ s, pad2 m = s := ⟨_, rfl⟩
  obtain ⟨s3, e3⟩ : ∃ s, pad2 d = s := ⟨_, rfl⟩
  have HV := Lib.hid (show dateT y m d = s4 ++ (45 :: (s2 ++ (45 :: s3))) by unfold dateT; rw [e4, e2, e3])
  rw [e4] at C1
  rw [e2] at C2
  rw [e3] at C3
  have l4 : s4.length = 4 := by rw [← e4]; rfl
  have l2 : s2.length = 2 := by rw [← e2]; rfl
  have l3 : s3.length = 2 := by rw [← e3]; rfl
  clear e4 e2 e3
  go_enter Tryd.func22, Tryd.ntmps22
  go_wp2_with fail
  (try (go_at_call 55; refine (C1.out _).mono ?_; rintro e w1 ⟨rfl, hb1⟩; obtain ⟨hc1, hf1⟩ := bcell hb1; have hz1 := hb1.size; (try simp at hz1); (try have q1_0_0_0 : w.heap.size < w1.heap.size := by omega); (try have q1_0_0_2 : w.heap.size < w1.heap.size + 1 + 1 := by omega); (try have q1_0_0_3 : w.heap.size < w1.heap.size + 1 + 1 + 1 := by omega); (try have q1_0_1_0 : w.heap.size + 1 < w1.heap.size := by omega); (try have q1_0_1_2 : w.heap.size + 1 < w1.heap.size + 1 + 1 := by omega); (try have q1_0_1_3 : w.heap.size + 1 < w1.heap.size + 1 + 1 + 1 := by omega); (try have q1_0_2_0 : w.heap.size + 1 + 1 < w1.heap.size := by omega); (try have q1_0_2_2 : w.heap.size + 1 + 1 < w1.heap.size + 1 + 1 := by omega); (try have q1_0_2_3 : w.heap.size + 1 + 1 < w1.heap.size + 1 + 1 + 1 := by omega); (try have q1_0_3_0 : w.heap.size + 1 + 1 + 1 < w1.heap.size := by omega); (try have q1_0_3_2 : w.heap.size + 1 + 1 + 1 < w1.heap.size + 1 + 1 := by omega); (try have q1_0_3_3 : w.heap.size + 1 + 1 + 1 < w1.heap.size + 1 + 1 + 1 := by omega); (try go_wp2_with fail)))
  (try (go_at_call 55; refine (C2.out _).mono ?_; rintro e w2 ⟨rfl, hb2⟩; obtain ⟨hc2, hf2⟩ := bcell hb2; have hz2 := hb2.size; (try simp at hz2); (try have q2_0_0_0 : w.heap.size < w2.heap.size := by omega); (try have q2_0_0_2 : w.heap.size < w2.heap.size + 1 + 1 := by omega); (try have q2_0_0_3 : w.heap.size < w2.heap.size + 1 + 1 + 1 := by omega); (try have q2_0_1_0 : w.heap.size + 1 < w2.heap.size := by omega); (try have q2_0_1_2 : w.heap.size + 1 < w2.heap.size + 1 + 1 := by omega); (try have q2_0_1_3 : w.heap.size + 1 < w2.heap.size + 1 + 1 + 1 := by omega); (try have q2_0_2_0 : w.heap.size + 1 + 1 < w2.heap.size := by omega); (try have q2_0_2_2 : w.heap.size + 1 + 1 < w2.heap.size + 1 + 1 := by omega); (try have q2_0_2_3 : w.heap.size + 1 + 1 < w2.heap.size + 1 + 1 + 1 := by omega); (try have q2_0_3_0 : w.heap.size + 1 + 1 + 1 < w2.heap.size := by omega); (try have q2_0_3_2 : w.heap.size + 1 + 1 + 1 < w2.heap.size + 1 + 1 := by omega); (try have q2_0_3_3 : w.heap.size + 1 + 1 + 1 < w2.heap.size + 1 + 1 + 1 := by omega); (try have q2_1_0_0 : w1.heap.size < w2.heap.size := by omega); (try have q2_1_0_2 : w1.heap.size < w2.heap.size + 1 + 1 := by omega); (try have q2_1_1_0 : w1.heap.size + 1 < w2.heap.size := by omega); (try have q2_1_1_2 : w1.heap.size + 1 < w2.heap.size + 1 + 1 := by omega); (try go_wp2_with fail)))
  (try (go_at_call 55; refine (C3.out _).mono ?_; rintro e w3 ⟨rfl, hb3⟩; obtain ⟨hc3, hf3⟩ := bcell hb3; have hz3 := hb3.size; (try simp at hz3); (try have q3_0_0_0 : w.heap.size < w3.heap.size := by omega); (try have q3_0_0_2 : w.heap.size < w3.heap.size + 1 + 1 := by omega); (try have q3_0_0_3 : w.heap.size < w3.heap.size + 1 + 1 + 1 := by omega); (try have q3_0_1_0 : w.heap.size + 1 < w3.heap.size := by omega); (try have q3_0_1_2 : w.heap.size + 1 < w3.heap.size + 1 + 1 := by omega); (try have q3_0_1_3 : w.heap.size + 1 < w3.heap.size + 1 + 1 + 1 := by omega); (try have q3_0_2_0 : w.heap.size + 1 + 1 < w3.heap.size := by omega); (try have q3_0_2_2 : w.heap.size + 1 + 1 < w3.heap.size + 1 + 1 := by omega); (try have q3_0_2_3 : w.heap.size + 1 + 1 < w3.heap.size + 1 + 1 + 1 := by omega); (try have q3_0_3_0 : w.heap.size + 1 + 1 + 1 < w3.heap.size := by omega); (try have q3_0_3_2 : w.heap.size + 1 + 1 + 1 < w3.heap.size + 1 + 1 := by omega); (try have q3_0_3_3 : w.heap.size + 1 + 1 + 1 < w3.heap.size + 1 + 1 + 1 := by omega); (try have q3_1_0_0 : w1.heap.size < w3.heap.size := by omega); (try have q3_1_0_2 : w1.heap.size < w3.heap.size + 1 + 1 := by omega); (try have q3_1_1_0 : w1.heap.size + 1 < w3.heap.size := by omega); (try have q3_1_1_2 : w1.heap.size + 1 < w3.heap.size + 1 + 1 := by omega); (try have q3_2_0_0 : w2.heap.size < w3.heap.size := by omega); (try have q3_2_0_2 : w2.heap.size < w3.heap.size + 1 + 1 := by omega); (try have q3_2_1_0 : w2.heap.size + 1 < w3.heap.size := by omega); (try have q3_2_1_2 : w2.heap.size + 1 < w3.heap.size + 1 + 1 := by omega); (try go_wp2_with fail)))
  go_ret
  exact ⟨ret_v (by rw [HV.out]; exact congrArg Value.string (ByteArray.ext (by simp [ByteArray.data_append]))), (by repeat (first | with_reducible exact Below.refl _ _ | (with_reducible refine Below.alloc ?_ (by first | omega | (simp; done) | (simp; omega)) _) | (with_reducible refine Below.setCell ?_ (by first | omega | (simp; done) | (simp; omega)) _) | (with_reducible refine Below.drew ?_) | (with_reducible refine below_drewN ?_ _) | (with_reducible assumption) | (with_reducible refine bel_step (by with_reducible assumption) ?_ (by first | omega | (simp; done) | (simp; omega)))))⟩
set_option maxRecDepth 100000 in
set_option maxHeartbeats 4000000 in
theorem r_DateOf (n y m d : Int) (w : World) (hd : dateB y m d = true) (hn : numD y m d = n) : Calls Tryd.prog 26 #[.int .i64 n] w fun e w' => e = .returned (.agg #[.int .i64 y, .int .i64 m, .int .i64 d]) ∧ Below w.heap.size w w' := by
  obtain ⟨g1, g2, g3, g4, g5, g6⟩ := dateB_bd hd
  obtain ⟨k1, k2, k3, k4⟩ := date_within hd hn
  have q1 := (firstD_bd (y := y) g1 (by omega))
  have qn : n ≤ 84005 := num_top g2 k2
  have HD := Lib.hid (show d = n - firstD y - aheadD y m + 1 by unfold numD at hn; omega)
  have hA := aheadD_bd y m
  have K1 := Lib.hid k1
  have K2 := Lib.hid k2
  have K3 := Lib.hid k3
  have K4 := Lib.hid k4
  clear hn hd k1 k2 k3 k4
  go_enter Tryd.func26, Tryd.ntmps26
  go_wp2_with fail
  go_loopw [0] (fun nv wr => ∃ y' : Int, 1970 ≤ y' ∧ y' ≤ y ∧ nv = .int .i64 (n - firstD y') ∧ wr = (w.alloc (.cells #[.int .i64 0, .int .i64 0, .int .i64 0] 27)).alloc (.cells #[.int .i64 y', .int .i64 1, .int .i64 0] 27)) (fun _ wr => match wr.cell? ⟨w.heap.size + 1, 0, none⟩ with | some v => (y - intOf v).toNat | none => 0)
  case atStart => exact ⟨1970, by omega, g1, by rw [firstD_1970]; simp, rfl⟩
  case round =>
    obtain ⟨y', r1, r2, rfl, rfl⟩ := hrel
    obtain ⟨fb0, fb1⟩ := firstD_bd r1 (show y' ≤ 2200 by omega)
    have hs := firstD_succ y'
    have hl := leapN_01 y'
    have k1 := K1.out
    have k2 := K2.out
    have hm1 : y' < y → firstD (y' + 1) ≤ firstD y := fun h => first_mono (by omega) (by omega)
    have C0 := fun w => r_YearDays y' w (by omega) (by omega)
    obtain ⟨L, eL⟩ : ∃ F, leapN y' = F := ⟨_, rfl⟩
    by_cases hlt : y' < y
    · have hm2 := hm1 hlt
      obtain ⟨F, eF⟩ : ∃ F, firstD y' = F := ⟨_, rfl⟩
      rw [eF] at fb0 fb1 hs ⊢
      rw [eL] at C0 hl hs
      have HS := Lib.hid hs
      obtain ⟨hl0, hl1⟩ := hl
      have hc : 365 + L ≤ n - F := by omega
      have C0 := Lib.hid C0
      clear eF eL hs k1 k2 hm1 hm2 q1
      go_wp2_with (go_at_call 54; refine (C0.out _).mono ?_; rintro e w' ⟨rfl, rfl⟩)
      go_roundw
      case rel => exact ⟨y' + 1, by omega, by omega, by rw [HS.out]; congr 1; omega, rfl⟩
      case measure => simp [intOf]; omega
    · obtain rfl : y' = y := by omega
      obtain ⟨F, eF⟩ : ∃ F, firstD y' = F := ⟨_, rfl⟩
      rw [eF] at fb0 fb1 hs k1 HD ⊢
      rw [eL] at C0 hl hs
      obtain ⟨hl0, hl1⟩ := hl
      have hc : n - F < 365 + L := by omega
      have K3 := K3.out
      have K4 := K4.out
      rw [eF] at K3 K4
      have K3 := Lib.hid K3
      have K4 := Lib.hid K4
      have C0 := Lib.hid C0
      clear eF eL hs k2 hm1 hlt r1 r2 q1
      go_wp2_with (go_at_call 54; refine (C0.out _).mono ?_; rintro e w' ⟨rfl, rfl⟩)
      clear hc hl0 hl1 C0
      go_loopw [0] (fun nv wr => ∃ m' : Int, 1 ≤ m' ∧ m' ≤ m ∧ nv = .int .i64 (n - F - aheadD y' m') ∧ wr = (w.alloc (.cells #[.int .i64 0, .int .i64 0, .int .i64 0] 27)).alloc (.cells #[.int .i64 y', .int .i64 m', .int .i64 0] 27)) (fun _ wr => match wr.cell? ⟨w.heap.size + 1, 1, none⟩ with | some v => (m - intOf v).toNat | none => 0)
      case atStart => exact ⟨1, by omega, g3, by rw [ahead_1]; simp, rfl⟩
      case round =>
        obtain ⟨m', r1, r2, rfl, rfl⟩ := hrel
        obtain ⟨a0, a1⟩ := aheadD_bd y' m'
        have hs := aheadD_succ y' m' (by omega) (by omega)
        obtain ⟨hl0, hl1⟩ := daysD_bd (y := y') (m := m') (by omega) (by omega)
        have C0 := fun w => r_Days y' m' w (by omega) (by omega) (by omega) (by omega)
        have k3 := K3.out
        have k4 := K4.out
        have hm1 : m' < m → aheadD y' (m' + 1) ≤ aheadD y' m := fun h => ahead_mono (by omega) (by omega) (by omega)
        obtain ⟨L, eL⟩ : ∃ F, daysD y' m' = F := ⟨_, rfl⟩
        by_cases hlt : m' < m
        · have hm2 := hm1 hlt
          obtain ⟨G, eG⟩ : ∃ F, aheadD y' m' = F := ⟨_, rfl⟩
          rw [eG] at a0 a1 hs ⊢
          rw [eL] at C0 hl0 hl1 hs
          have HS := Lib.hid hs
          have hc : L ≤ n - F - G := by omega
          have C0 := Lib.hid C0
          clear eG eL hs k3 k4 hm1 hm2 hA
          go_wp2_with (go_at_call 27; refine (C0.out _).mono ?_; rintro e w' ⟨rfl, rfl⟩)
          go_roundw
          case rel => exact ⟨m' + 1, by omega, by omega, by rw [HS.out]; congr 1; omega, rfl⟩
          case measure => simp [intOf]; omega
        · obtain rfl : m' = m := by omega
          obtain ⟨G, eG⟩ : ∃ F, aheadD y' m' = F := ⟨_, rfl⟩
          rw [eG] at a0 a1 hs k3 HD ⊢
          rw [eL] at C0 hl0 hl1 hs
          have hc : n - F - G < L := by omega
          have C0 := Lib.hid C0
          clear eG eL hs k4 hm1 hlt r1 r2 hA
          go_wp2_with (go_at_call 27; refine (C0.out _).mono ?_; rintro e w' ⟨rfl, rfl⟩)
          refine bodyPost_ret (v := .agg #[.int .i64 y', .int .i64 m', .int .i64 (n - F - G + 1)]) (by simp [results, Tryd.results26, go_sem]) rfl ⟨ret_v (by rw [HD.out]), ?_⟩
          exact (by repeat (first | with_reducible exact Below.refl _ _ | (with_reducible refine Below.alloc ?_ (by first | omega | (simp; done) | (simp; omega)) _) | (with_reducible refine Below.setCell ?_ (by first | omega | (simp; done) | (simp; omega)) _) | (with_reducible refine Below.drew ?_) | (with_reducible refine below_drewN ?_ _) | (with_reducible assumption) | (with_reducible refine bel_step (by with_reducible assumption) ?_ (by first | omega | (simp; done) | (simp; omega)))))
end Go.Proofs.YtcigoleplhdlaaaDoor
