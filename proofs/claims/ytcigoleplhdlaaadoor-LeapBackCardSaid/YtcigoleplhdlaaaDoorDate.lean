/- Dates as texts, walked. -/
import Derived.Test.YtcigoleplhdlaaaDoorCivil
import Derived.Test.YtcigoleplhdlaaaDoorDateP
namespace Go.Proofs.YtcigoleplhdlaaaDoor
open Go.RowKit
set_option linter.unusedVariables false
set_option linter.unusedSimpArgs false
theorem conv_back {w : World} {g cap : Nat} {l : List UInt8} (h : ∀ k (hk : k < l.length), w.cell? ⟨g, k, none⟩ = some (.int .u8 (l[k].toNat : Int))) :
    (convert 83 9 (.slice (some ⟨g, 0, none⟩) l.length cap)).run Tryd.prog w = .ok (.string ⟨l.toArray⟩) w :=
  run_convert_bytes_back (P := Tryd.prog) w 83 9 5 ⟨g, 0, none⟩ cap l Tryd.underlying83 Tryd.underlying5 Tryd.underlying9 (fun j hj => by
    rw [show (⟨g, 0, none⟩ : Addr).add j = ⟨g, j, none⟩ by unfold Addr.add; split <;> simp_all]
    exact h j hj)
theorem conv_pad2 (n : Int) (w : World) : (convert 83 9 (.slice (some ⟨w.heap.size, 0, none⟩) 2 2)).run Tryd.prog (w.alloc (.cells #[.int .u8 (48 + n / 10 % 10), .int .u8 (48 + n % 10)] 5))
    = .ok (.string ⟨(pad2 n).toArray⟩) (w.alloc (.cells #[.int .u8 (48 + n / 10 % 10), .int .u8 (48 + n % 10)] 5)) := by
  have e0 := dgU_toNat n
  have e1 := dgU_toNat (n / 10)
  refine conv_back (l := pad2 n) (fun k hk => ?_)
  have hk' : k < 2 := hk
  rw [(Blk.new w _ _).cell k]
  have hc : k = 0 ∨ k = 1 := by omega
  rcases hc with rfl | rfl
  · show some (Value.int .u8 (48 + n / 10 % 10)) = some (Value.int .u8 ((dgU (n / 10)).toNat : Int)); rw [e1]
  · show some (Value.int .u8 (48 + n % 10)) = some (Value.int .u8 ((dgU n).toNat : Int)); rw [e0]
theorem conv_pad4 (n : Int) (w : World) : (convert 83 9 (.slice (some ⟨w.heap.size, 0, none⟩) 4 4)).run Tryd.prog (w.alloc (.cells #[.int .u8 (48 + n / 10 / 10 / 10 % 10), .int .u8 (48 + n / 10 / 10 % 10), .int .u8 (48 + n / 10 % 10), .int .u8 (48 + n % 10)] 5))
    = .ok (.string ⟨(pad4 n).toArray⟩) (w.alloc (.cells #[.int .u8 (48 + n / 10 / 10 / 10 % 10), .int .u8 (48 + n / 10 / 10 % 10), .int .u8 (48 + n / 10 % 10), .int .u8 (48 + n % 10)] 5)) := by
  have e0 := dgU_toNat n
  have e1 := dgU_toNat (n / 10)
  have e2 := dgU_toNat (n / 100)
  have e3 := dgU_toNat (n / 1000)
  refine conv_back (l := pad4 n) (fun k hk => ?_)
  have hk' : k < 4 := hk
  rw [(Blk.new w _ _).cell k]
  have hc : k = 0 ∨ k = 1 ∨ k = 2 ∨ k = 3 := by omega
  rcases hc with rfl | rfl | rfl | rfl
  · show some (Value.int .u8 (48 + n / 10 / 10 / 10 % 10)) = some (Value.int .u8 ((dgU (n / 1000)).toNat : Int)); rw [e3, show n / 10 / 10 / 10 = n / 1000 by omega]
  · show some (Value.int .u8 (48 + n / 10 / 10 % 10)) = some (Value.int .u8 ((dgU (n / 100)).toNat : Int)); rw [e2, show n / 10 / 10 = n / 100 by omega]
  · show some (Value.int .u8 (48 + n / 10 % 10)) = some (Value.int .u8 ((dgU (n / 10)).toNat : Int)); rw [e1]
  · show some (Value.int .u8 (48 + n % 10)) = some (Value.int .u8 ((dgU n).toNat : Int)); rw [e0]
set_option maxRecDepth 100000 in
theorem civil_Pad2 (n : Int) (w : World) (h0 : 0 ≤ n) (h1 : n ≤ 99) : Calls Tryd.prog 52 #[.int .i64 n, .int .i64 2] w fun e w' => e = .returned (.string ⟨(pad2 n).toArray⟩) ∧ Below w.heap.size w w' := by
  have hmk : ∀ w, (Instr.makeSlice 83 (.int .i64 2) (.int .i64 2)).run Tryd.prog w = .ok (.slice (some ⟨w.heap.size, 0, none⟩) 2 2) (w.alloc (.cells #[.int .u8 0, .int .u8 0] 5)) := fun _ => by kernel_rfl
  have hcv := conv_pad2 n
  go_enter Tryd.func52, Tryd.ntmps52
  go_wp2_with fail
  refine wp_loop_rounds 3 ?_
  rw [rounds_succ]
  go_wp2_with fail
  rw [rounds_succ]
  go_wp2_with fail
  rw [rounds_succ]
  go_wp2_with fail
  go_ret
  exact ⟨rfl, (by repeat (first | with_reducible exact Below.refl _ _ | (with_reducible refine Below.alloc ?_ (by first | omega | (simp; done) | (simp; omega)) _) | (with_reducible refine Below.setCell ?_ (by first | omega | (simp; done) | (simp; omega)) _) | (with_reducible refine Below.drew ?_) | (with_reducible refine below_drewN ?_ _) | (with_reducible assumption) | (with_reducible refine bel_step (by with_reducible assumption) ?_ (by first | omega | (simp; done) | (simp; omega)))))⟩
set_option maxRecDepth 100000 in
theorem civil_Pad4 (n : Int) (w : World) (h0 : 0 ≤ n) (h1 : n ≤ 9999) : Calls Tryd.prog 52 #[.int .i64 n, .int .i64 4] w fun e w' => e = .returned (.string ⟨(pad4 n).toArray⟩) ∧ Below w.heap.size w w' := by
  have hmk : ∀ w, (Instr.makeSlice 83 (.int .i64 4) (.int .i64 4)).run Tryd.prog w = .ok (.slice (some ⟨w.heap.size, 0, none⟩) 4 4) (w.alloc (.cells #[.int .u8 0, .int .u8 0, .int .u8 0, .int .u8 0] 5)) := fun _ => by kernel_rfl
  have hcv := conv_pad4 n
  go_enter Tryd.func52, Tryd.ntmps52
  go_wp2_with fail
  refine wp_loop_rounds 5 ?_
  rw [rounds_succ]
  go_wp2_with fail
  rw [rounds_succ]
  go_wp2_with fail
  rw [rounds_succ]
  go_wp2_with fail
  rw [rounds_succ]
  go_wp2_with fail
  rw [rounds_succ]
  go_wp2_with fail
  go_ret
  exact ⟨rfl, (by repeat (first | with_reducible exact Below.refl _ _ | (with_reducible refine Below.alloc ?_ (by first | omega | (simp; done) | (simp; omega)) _) | (with_reducible refine Below.setCell ?_ (by first | omega | (simp; done) | (simp; omega)) _) | (with_reducible refine Below.drew ?_) | (with_reducible refine below_drewN ?_ _) | (with_reducible assumption) | (with_reducible refine bel_step (by with_reducible assumption) ?_ (by first | omega | (simp; done) | (simp; omega)))))⟩
set_option maxRecDepth 100000 in
theorem civil_Text (y m d : Int) (w : World) (h1 : 0 ≤ y) (h2 : y ≤ 9999) (h3 : 0 ≤ m) (h4 : m ≤ 99) (h5 : 0 ≤ d) (h6 : d ≤ 99) : Calls Tryd.prog 45 #[.agg #[.int .i64 y, .int .i64 m, .int .i64 d]] w fun e w' => e = .returned (.string ⟨(dateT y m d).toArray⟩) ∧ Below w.heap.size w w' := by
  have C1 := Lib.hid (fun w => civil_Pad4 y w h1 h2)
  have C2 := Lib.hid (fun w => civil_Pad2 m w h3 h4)
  have C3 := Lib.hid (fun w => civil_Pad2 d w h5 h6)
  obtain ⟨s4, e4⟩ : ∃ s, pad4 y = s := ⟨_, rfl⟩
  obtain ⟨s2, e2⟩ : ∃ s, pad2 m = s := ⟨_, rfl⟩
  obtain ⟨s3, e3⟩ : ∃ s, pad2 d = s := ⟨_, rfl⟩
  have HV := Lib.hid (show dateT y m d = s4 ++ (45 :: (s2 ++ (45 :: s3))) by unfold dateT; rw [e4, e2, e3])
  rw [e4] at C1
  rw [e2] at C2
  rw [e3] at C3
  have l4 : s4.length = 4 := by rw [← e4]; rfl
  have l2 : s2.length = 2 := by rw [← e2]; rfl
  have l3 : s3.length = 2 := by rw [← e3]; rfl
  have k0 : (w.alloc (.cells #[.int .i64 y, .int .i64 m, .int .i64 d] 27)).cell? ⟨w.heap.size, 0, none⟩ = some (.int .i64 y) := by simp
  have k1 : (w.alloc (.cells #[.int .i64 y, .int .i64 m, .int .i64 d] 27)).cell? ⟨w.heap.size, 1, none⟩ = some (.int .i64 m) := by simp
  have k2 : (w.alloc (.cells #[.int .i64 y, .int .i64 m, .int .i64 d] 27)).cell? ⟨w.heap.size, 2, none⟩ = some (.int .i64 d) := by simp
  clear e4 e2 e3
  go_enter Tryd.func45, Tryd.ntmps45
  go_wp2_with fail
  go_region_held3 (fun w' => w'.cell? ⟨w.heap.size, 0, none⟩ = some (.int .i64 y) ∧ w'.cell? ⟨w.heap.size, 1, none⟩ = some (.int .i64 m) ∧ w'.cell? ⟨w.heap.size, 2, none⟩ = some (.int .i64 d)) (((repeat' apply And.intro) <;> exact (Below.cell (B := (w.alloc (.cells #[.int .i64 y, .int .i64 m, .int .i64 d] 27)).heap.size) (w := w.alloc (.cells #[.int .i64 y, .int .i64 m, .int .i64 d] 27)) (by repeat (first | with_reducible exact Below.refl _ _ | (with_reducible refine Below.alloc ?_ (by first | omega | (simp; done) | (simp; omega)) _) | (with_reducible refine Below.setCell ?_ (by first | omega | (simp; done) | (simp; omega)) _) | (with_reducible refine Below.drew ?_) | (with_reducible refine below_drewN ?_ _) | (with_reducible assumption) | (with_reducible refine bel_step (by with_reducible assumption) ?_ (by first | omega | (simp; done) | (simp; omega))))) (by first | omega | (simp; done) | (simp; omega))).trans (by assumption)))
    (first | (go_at_call 52; (with_reducible refine (C1.out _).mono ?_); rintro e w1 ⟨rfl, hb1⟩; obtain ⟨hc1, hf1⟩ := bcell hb1; have hz1 := hb1.size; (try simp at hz1); (try have q1_0_0_0 : w.heap.size < w1.heap.size := by omega); (try have q1_0_0_2 : w.heap.size < w1.heap.size + 1 + 1 := by omega); (try have q1_0_0_3 : w.heap.size < w1.heap.size + 1 + 1 + 1 := by omega); (try have q1_0_1_0 : w.heap.size + 1 < w1.heap.size := by omega); (try have q1_0_1_2 : w.heap.size + 1 < w1.heap.size + 1 + 1 := by omega); (try have q1_0_1_3 : w.heap.size + 1 < w1.heap.size + 1 + 1 + 1 := by omega); (try have q1_0_2_0 : w.heap.size + 1 + 1 < w1.heap.size := by omega); (try have q1_0_2_2 : w.heap.size + 1 + 1 < w1.heap.size + 1 + 1 := by omega); (try have q1_0_2_3 : w.heap.size + 1 + 1 < w1.heap.size + 1 + 1 + 1 := by omega); (try have q1_0_3_0 : w.heap.size + 1 + 1 + 1 < w1.heap.size := by omega); (try have q1_0_3_2 : w.heap.size + 1 + 1 + 1 < w1.heap.size + 1 + 1 := by omega); (try have q1_0_3_3 : w.heap.size + 1 + 1 + 1 < w1.heap.size + 1 + 1 + 1 := by omega)) | (go_at_call 52; (with_reducible refine (C2.out _).mono ?_); rintro e w2 ⟨rfl, hb2⟩; obtain ⟨hc2, hf2⟩ := bcell hb2; have hz2 := hb2.size; (try simp at hz2); (try have q2_0_0_0 : w.heap.size < w2.heap.size := by omega); (try have q2_0_0_2 : w.heap.size < w2.heap.size + 1 + 1 := by omega); (try have q2_0_0_3 : w.heap.size < w2.heap.size + 1 + 1 + 1 := by omega); (try have q2_0_1_0 : w.heap.size + 1 < w2.heap.size := by omega); (try have q2_0_1_2 : w.heap.size + 1 < w2.heap.size + 1 + 1 := by omega); (try have q2_0_1_3 : w.heap.size + 1 < w2.heap.size + 1 + 1 + 1 := by omega); (try have q2_0_2_0 : w.heap.size + 1 + 1 < w2.heap.size := by omega); (try have q2_0_2_2 : w.heap.size + 1 + 1 < w2.heap.size + 1 + 1 := by omega); (try have q2_0_2_3 : w.heap.size + 1 + 1 < w2.heap.size + 1 + 1 + 1 := by omega); (try have q2_0_3_0 : w.heap.size + 1 + 1 + 1 < w2.heap.size := by omega); (try have q2_0_3_2 : w.heap.size + 1 + 1 + 1 < w2.heap.size + 1 + 1 := by omega); (try have q2_0_3_3 : w.heap.size + 1 + 1 + 1 < w2.heap.size + 1 + 1 + 1 := by omega); (try have q2_1_0_0 : w1.heap.size < w2.heap.size := by omega); (try have q2_1_0_2 : w1.heap.size < w2.heap.size + 1 + 1 := by omega); (try have q2_1_1_0 : w1.heap.size + 1 < w2.heap.size := by omega); (try have q2_1_1_2 : w1.heap.size + 1 < w2.heap.size + 1 + 1 := by omega)) | (go_at_call 52; (with_reducible refine (C3.out _).mono ?_); rintro e w3 ⟨rfl, hb3⟩; obtain ⟨hc3, hf3⟩ := bcell hb3; have hz3 := hb3.size; (try simp at hz3); (try have q3_0_0_0 : w.heap.size < w3.heap.size := by omega); (try have q3_0_0_2 : w.heap.size < w3.heap.size + 1 + 1 := by omega); (try have q3_0_0_3 : w.heap.size < w3.heap.size + 1 + 1 + 1 := by omega); (try have q3_0_1_0 : w.heap.size + 1 < w3.heap.size := by omega); (try have q3_0_1_2 : w.heap.size + 1 < w3.heap.size + 1 + 1 := by omega); (try have q3_0_1_3 : w.heap.size + 1 < w3.heap.size + 1 + 1 + 1 := by omega); (try have q3_0_2_0 : w.heap.size + 1 + 1 < w3.heap.size := by omega); (try have q3_0_2_2 : w.heap.size + 1 + 1 < w3.heap.size + 1 + 1 := by omega); (try have q3_0_2_3 : w.heap.size + 1 + 1 < w3.heap.size + 1 + 1 + 1 := by omega); (try have q3_0_3_0 : w.heap.size + 1 + 1 + 1 < w3.heap.size := by omega); (try have q3_0_3_2 : w.heap.size + 1 + 1 + 1 < w3.heap.size + 1 + 1 := by omega); (try have q3_0_3_3 : w.heap.size + 1 + 1 + 1 < w3.heap.size + 1 + 1 + 1 := by omega); (try have q3_1_0_0 : w1.heap.size < w3.heap.size := by omega); (try have q3_1_0_2 : w1.heap.size < w3.heap.size + 1 + 1 := by omega); (try have q3_1_1_0 : w1.heap.size + 1 < w3.heap.size := by omega); (try have q3_1_1_2 : w1.heap.size + 1 < w3.heap.size + 1 + 1 := by omega); (try have q3_2_0_0 : w2.heap.size < w3.heap.size := by omega); (try have q3_2_0_2 : w2.heap.size < w3.heap.size + 1 + 1 := by omega); (try have q3_2_1_0 : w2.heap.size + 1 < w3.heap.size := by omega); (try have q3_2_1_2 : w2.heap.size + 1 < w3.heap.size + 1 + 1 := by omega)))
  all_goals
    go_wp2_with fail
    go_ret
    exact ⟨ret_v (by rw [HV.out]; exact congrArg Value.string (ByteArray.ext (by simp [ByteArray.data_append]))), (by repeat (first | with_reducible exact Below.refl _ _ | (with_reducible refine Below.alloc ?_ (by first | omega | (simp; done) | (simp; omega)) _) | (with_reducible refine Below.setCell ?_ (by first | omega | (simp; done) | (simp; omega)) _) | (with_reducible refine Below.drew ?_) | (with_reducible refine below_drewN ?_ _) | (with_reducible assumption) | (with_reducible refine bel_step (by with_reducible assumption) ?_ (by first | omega | (simp; done) | (simp; omega)))))⟩
set_option maxRecDepth 100000 in
theorem civil_Print (y m d : Int) (w : World) (hT : TabAt w) (hd : dateB y m d = true) : Calls Tryd.prog 13 #[.agg #[.int .i64 y, .int .i64 m, .int .i64 d]] w fun e w' => e = .returned (.tuple #[.string ⟨(dateT y m d).toArray⟩, .nilIface]) ∧ Below w.heap.size w w' := by
  obtain ⟨g1, g2, g3, g4, g5, g6⟩ := dateB_bd hd
  have C1 := fun w hT => civil_Check y m d w hT
  rw [hd] at C1
  have C1 := Lib.hid C1
  have C2 := Lib.hid (fun w => civil_Text y m d w (by omega) (by omega) (by omega) (by omega) (by omega) (by omega))
  obtain ⟨T, eT⟩ : ∃ T, dateT y m d = T := ⟨_, rfl⟩
  rw [eT] at C2 ⊢
  have HT := Lib.hid hT
  clear hT hd eT
  go_enter Tryd.func13, Tryd.ntmps13
  go_wp2_with fail
  (try (go_at_call 24; refine (C1.out _ (HT.out.below (by repeat (first | with_reducible exact Below.refl _ _ | (with_reducible refine Below.alloc ?_ (by first | omega | (simp; done) | (simp; omega)) _) | (with_reducible refine Below.setCell ?_ (by first | omega | (simp; done) | (simp; omega)) _) | (with_reducible refine Below.drew ?_) | (with_reducible refine below_drewN ?_ _) | (with_reducible assumption) | (with_reducible refine bel_step (by with_reducible assumption) ?_ (by first | omega | (simp; done) | (simp; omega))))))).mono ?_; rintro e w1 ⟨rfl, hb1⟩; obtain ⟨hc1, hf1⟩ := bcell hb1; have hz1 := hb1.size; (try simp at hz1); (try have q1_0_0_0 : w.heap.size < w1.heap.size := by omega); (try have q1_0_0_2 : w.heap.size < w1.heap.size + 1 + 1 := by omega); (try have q1_0_0_3 : w.heap.size < w1.heap.size + 1 + 1 + 1 := by omega); (try have q1_0_1_0 : w.heap.size + 1 < w1.heap.size := by omega); (try have q1_0_1_2 : w.heap.size + 1 < w1.heap.size + 1 + 1 := by omega); (try have q1_0_1_3 : w.heap.size + 1 < w1.heap.size + 1 + 1 + 1 := by omega); (try have q1_0_2_0 : w.heap.size + 1 + 1 < w1.heap.size := by omega); (try have q1_0_2_2 : w.heap.size + 1 + 1 < w1.heap.size + 1 + 1 := by omega); (try have q1_0_2_3 : w.heap.size + 1 + 1 < w1.heap.size + 1 + 1 + 1 := by omega); (try have q1_0_3_0 : w.heap.size + 1 + 1 + 1 < w1.heap.size := by omega); (try have q1_0_3_2 : w.heap.size + 1 + 1 + 1 < w1.heap.size + 1 + 1 := by omega); (try have q1_0_3_3 : w.heap.size + 1 + 1 + 1 < w1.heap.size + 1 + 1 + 1 := by omega); (try go_wp2_with fail)))
  (try (go_at_call 45; refine (C2.out _).mono ?_; rintro e w2 ⟨rfl, hb2⟩; obtain ⟨hc2, hf2⟩ := bcell hb2; have hz2 := hb2.size; (try simp at hz2); (try have q2_0_0_0 : w.heap.size < w2.heap.size := by omega); (try have q2_0_0_2 : w.heap.size < w2.heap.size + 1 + 1 := by omega); (try have q2_0_0_3 : w.heap.size < w2.heap.size + 1 + 1 + 1 := by omega); (try have q2_0_1_0 : w.heap.size + 1 < w2.heap.size := by omega); (try have q2_0_1_2 : w.heap.size + 1 < w2.heap.size + 1 + 1 := by omega); (try have q2_0_1_3 : w.heap.size + 1 < w2.heap.size + 1 + 1 + 1 := by omega); (try have q2_0_2_0 : w.heap.size + 1 + 1 < w2.heap.size := by omega); (try have q2_0_2_2 : w.heap.size + 1 + 1 < w2.heap.size + 1 + 1 := by omega); (try have q2_0_2_3 : w.heap.size + 1 + 1 < w2.heap.size + 1 + 1 + 1 := by omega); (try have q2_0_3_0 : w.heap.size + 1 + 1 + 1 < w2.heap.size := by omega); (try have q2_0_3_2 : w.heap.size + 1 + 1 + 1 < w2.heap.size + 1 + 1 := by omega); (try have q2_0_3_3 : w.heap.size + 1 + 1 + 1 < w2.heap.size + 1 + 1 + 1 := by omega); (try have q2_1_0_0 : w1.heap.size < w2.heap.size := by omega); (try have q2_1_0_2 : w1.heap.size < w2.heap.size + 1 + 1 := by omega); (try have q2_1_1_0 : w1.heap.size + 1 < w2.heap.size := by omega); (try have q2_1_1_2 : w1.heap.size + 1 < w2.heap.size + 1 + 1 := by omega); (try go_wp2_with fail)))
  go_ret2
  exact ⟨rfl, (by repeat (first | with_reducible exact Below.refl _ _ | (with_reducible refine Below.alloc ?_ (by first | omega | (simp; done) | (simp; omega)) _) | (with_reducible refine Below.setCell ?_ (by first | omega | (simp; done) | (simp; omega)) _) | (with_reducible refine Below.drew ?_) | (with_reducible refine below_drewN ?_ _) | (with_reducible assumption) | (with_reducible refine bel_step (by with_reducible assumption) ?_ (by first | omega | (simp; done) | (simp; omega)))))⟩
set_option maxRecDepth 100000 in
theorem civil_Print_no (y m d : Int) (w : World) (hT : TabAt w) (hd : dateB y m d = false) : Calls Tryd.prog 13 #[.agg #[.int .i64 y, .int .i64 m, .int .i64 d]] w fun e w' => e = .returned (.tuple #[.string ⟨#[]⟩, .iface 71 (.int .i64 1)]) ∧ Below w.heap.size w w' := by
  have C1 := fun w hT => civil_Check y m d w hT
  rw [hd] at C1
  have C1 := Lib.hid C1
  have HT := Lib.hid hT
  clear hT hd
  go_enter Tryd.func13, Tryd.ntmps13
  go_wp2_with fail
  (try (go_at_call 24; refine (C1.out _ (HT.out.below (by repeat (first | with_reducible exact Below.refl _ _ | (with_reducible refine Below.alloc ?_ (by first | omega | (simp; done) | (simp; omega)) _) | (with_reducible refine Below.setCell ?_ (by first | omega | (simp; done) | (simp; omega)) _) | (with_reducible refine Below.drew ?_) | (with_reducible refine below_drewN ?_ _) | (with_reducible assumption) | (with_reducible refine bel_step (by with_reducible assumption) ?_ (by first | omega | (simp; done) | (simp; omega))))))).mono ?_; rintro e w1 ⟨rfl, hb1⟩; obtain ⟨hc1, hf1⟩ := bcell hb1; have hz1 := hb1.size; (try simp at hz1); (try have q1_0_0_0 : w.heap.size < w1.heap.size := by omega); (try have q1_0_0_2 : w.heap.size < w1.heap.size + 1 + 1 := by omega); (try have q1_0_0_3 : w.heap.size < w1.heap.size + 1 + 1 + 1 := by omega); (try have q1_0_1_0 : w.heap.size + 1 < w1.heap.size := by omega); (try have q1_0_1_2 : w.heap.size + 1 < w1.heap.size + 1 + 1 := by omega); (try have q1_0_1_3 : w.heap.size + 1 < w1.heap.size + 1 + 1 + 1 := by omega); (try have q1_0_2_0 : w.heap.size + 1 + 1 < w1.heap.size := by omega); (try have q1_0_2_2 : w.heap.size + 1 + 1 < w1.heap.size + 1 + 1 := by omega); (try have q1_0_2_3 : w.heap.size + 1 + 1 < w1.heap.size + 1 + 1 + 1 := by omega); (try have q1_0_3_0 : w.heap.size + 1 + 1 + 1 < w1.heap.size := by omega); (try have q1_0_3_2 : w.heap.size + 1 + 1 + 1 < w1.heap.size + 1 + 1 := by omega); (try have q1_0_3_3 : w.heap.size + 1 + 1 + 1 < w1.heap.size + 1 + 1 + 1 := by omega); (try go_wp2_with fail)))
  go_ret2
  exact ⟨rfl, (by repeat (first | with_reducible exact Below.refl _ _ | (with_reducible refine Below.alloc ?_ (by first | omega | (simp; done) | (simp; omega)) _) | (with_reducible refine Below.setCell ?_ (by first | omega | (simp; done) | (simp; omega)) _) | (with_reducible refine Below.drew ?_) | (with_reducible refine below_drewN ?_ _) | (with_reducible assumption) | (with_reducible refine bel_step (by with_reducible assumption) ?_ (by first | omega | (simp; done) | (simp; omega)))))⟩
theorem rowByte_get (s : ByteArray) (cap j : Nat) (h : j < s.size) : (bytesRow s cap)[j]? = some (.int .u8 ((s.data.toList.getD j 0).toNat : Int)) := by
  rw [bytesRow_at s cap j h]
  have : s.data.toList.getD j 0 = s.data[j] := by
    rw [List.getD_eq_getElem?_getD, List.getElem?_eq_getElem (by simpa using h)]
    simp
  rw [this]
theorem digB_iff (c : UInt8) : digB c = true ↔ 48 ≤ (c.toNat : Int) ∧ (c.toNat : Int) ≤ 57 := by unfold digB; simp; omega
def twoR (l : List UInt8) : Int := if twoB l = true then twoV l else 0
set_option maxRecDepth 100000 in
set_option maxHeartbeats 4000000 in
theorem civil_Two (s : ByteArray) (w : World) (hs : s.size ≤ 4) :
    Calls Tryd.prog 44 #[.string s] w fun e w' => e = .returned (.tuple #[.int .i64 (twoR s.data.toList), .bool (twoB s.data.toList)]) ∧ Below w.heap.size w w' := by
  have hcv := fun (s : ByteArray) (w : World) => run_bytes_of_string (P := Tryd.prog) w 9 83 5 s Tryd.underlying9 Tryd.underlying83 Tryd.underlying5
  have gc := World.cell?_alloc_mark w
  obtain ⟨l, hl⟩ : ∃ l, s.data.toList = l := ⟨_, rfl⟩
  have HL := Lib.hid (show l.length = s.size by rw [← hl]; rfl)
  have HG : Hid (∀ C j, j < s.size → (bytesRow s C)[j]? = some (.int .u8 ((l.getD j 0).toNat : Int))) := Lib.hid (fun C j hj => by rw [rowByte_get s C j hj, hl])
  rw [hl]
  clear hl
  go_enter Tryd.func44, Tryd.ntmps44
  go_wp2
  go_loop [4, 10] (fun n i => ∃ k : Nat, k ≤ s.size ∧ i = .int .i64 k ∧ n = .int .i64 (twoV (l.take k)) ∧ twoB (l.take k) = true) (fun _ i => s.size - (intOf i).toNat)
  case atStart => exact ⟨0, by omega, rfl, by simp [twoV], by simp [twoB]⟩
  case round =>
    obtain ⟨k, hk, rfl, rfl, hB⟩ := hrel
    obtain ⟨b0, b1⟩ := twoV_bd (l.take k) hB (by rw [List.length_take]; omega)
    by_cases hlt : k < s.size
    · have hg := fun C => HG.out C k hlt
      have ht := take_snoc_g (l := l) (k := k) (by rw [HL.out]; exact hlt)
      have HS := Lib.hid (show twoV (l.take (k + 1)) = twoV (l.take k) * 10 + (((l.getD k 0).toNat : Int) - 48) by rw [ht, twoV_snoc])
      have HS2 := Lib.hid (show twoB (l.take (k + 1)) = digB (l.getD k 0) by rw [ht, twoB_snoc, hB, Bool.true_and])
      have hc0 : ((l.getD k 0).toNat : Int) < 256 := by have := (l.getD k 0).toNat_lt; omega
      have hD := Lib.hid (digB_iff (l.getD k 0))
      obtain ⟨q, eq⟩ : ∃ q, digB (l.getD k 0) = q := ⟨_, rfl⟩
      rw [eq] at HS2 hD
      obtain ⟨c, ec⟩ : ∃ c : Int, ((l.getD k 0).toNat : Int) = c := ⟨_, rfl⟩
      obtain ⟨N, eN⟩ : ∃ N, twoV (l.take k) = N := ⟨_, rfl⟩
      have hc1 : 0 ≤ c := by omega
      rw [ec] at hg hc0 HS hD
      rw [eN] at b0 b1 HS ⊢
      clear ec eN eq ht hB
      by_cases d1 : 48 ≤ c ∧ c ≤ 57
      · have HQ := Lib.hid (show q = true from hD.out.2 d1)
        obtain ⟨d1, d2⟩ := d1
        go_wp2
        go_round
        case rel => exact ⟨k + 1, by omega, by go_num, by rw [HS.out], by rw [HS2.out, HQ.out]⟩
        case measure => simp [intOf]; omega
      · have HQ := Lib.hid (show twoB l = false from twoB_take (k := k + 1) (by rw [HS2.out]; cases q; rfl; exact absurd (hD.out.1 rfl) d1))
        rcases (show c < 48 ∨ (¬ c < 48 ∧ 57 < c) by omega) with d2 | ⟨d2, d3⟩
        all_goals
          clear d1
          go_wp2
          go_ret2
          exact ⟨by rw [HQ.out]; unfold twoR; rw [HQ.out]; rfl, (by repeat (first | with_reducible exact Below.refl _ _ | (with_reducible refine Below.alloc ?_ (by first | omega | (simp; done) | (simp; omega)) _) | (with_reducible refine Below.setCell ?_ (by first | omega | (simp; done) | (simp; omega)) _) | (with_reducible refine Below.drew ?_) | (with_reducible refine below_drewN ?_ _) | (with_reducible assumption) | (with_reducible refine bel_step (by with_reducible assumption) ?_ (by first | omega | (simp; done) | (simp; omega)))))⟩
    · have : k = s.size := by omega
      subst this
      rw [List.take_of_length_le (by rw [HL.out]; omega)] at hB b0 b1 ⊢
      have HB := Lib.hid hB
      have HV := Lib.hid (show twoR l = twoV l by unfold twoR; rw [hB, if_pos rfl])
      clear hB
      go_wp2
      go_ret2
      exact ⟨by rw [HV.out, HB.out]; rfl, (by repeat (first | with_reducible exact Below.refl _ _ | (with_reducible refine Below.alloc ?_ (by first | omega | (simp; done) | (simp; omega)) _) | (with_reducible refine Below.setCell ?_ (by first | omega | (simp; done) | (simp; omega)) _) | (with_reducible refine Below.drew ?_) | (with_reducible refine below_drewN ?_ _) | (with_reducible assumption) | (with_reducible refine bel_step (by with_reducible assumption) ?_ (by first | omega | (simp; done) | (simp; omega)))))⟩
theorem sub_bytes (s : ByteArray) (a b : Nat) : (s.extract a b).data.toList = (s.data.toList.drop a).take (b - a) := by simp [List.take_drop]
theorem idx_s (s : ByteArray) (k : Nat) (h : k < s.size) (i : Int) (hi : i = (k : Int)) (w : World) : (Instr.index 9 (.string s) (.int .i64 i)).run Tryd.prog w = .ok (.int .u8 ((s.data.toList.getD k 0).toNat : Int)) w := by
  subst hi
  rw [run_index_string w 9 s .i64 k Tryd.underlying9, dif_pos ⟨by omega, by omega⟩]
  have : ((s[k]'h).toNat : Int) = ((s.data.toList.getD k 0).toNat : Int) := by rw [List.getD_eq_getElem?_getD, List.getElem?_eq_getElem (by simpa using h)]; simp; rfl
  simp only [Int.toNat_natCast]
  rw [this]
theorem dash_iff (c : UInt8) : c = 45 ↔ (c.toNat : Int) = 45 := by
  constructor
  · intro h; rw [h]; rfl
  · intro h; exact UInt8.toNat_inj.1 (show c.toNat = 45 by omega)
/-- what civil.Parse says of a text. -/
def ParseE (l : List UInt8) : Ending := .returned (.tuple #[.agg #[.int .i64 (if parC l = 0 then pY l else 0), .int .i64 (if parC l = 0 then pM l else 0), .int .i64 (if parC l = 0 then pD l else 0)], errV (parC l)])
theorem ParseE_no {l : List UInt8} (h : dateOfB l = false) : ParseE l = .returned (.tuple #[.agg #[.int .i64 0, .int .i64 0, .int .i64 0], .iface 71 (.int .i64 2)]) := by
  have : parC l = 2 := by unfold parC; rw [h]; rfl
  unfold ParseE
  rw [this]; rfl
set_option maxRecDepth 100000 in
set_option maxHeartbeats 4000000 in
theorem civil_Parse (s : ByteArray) (w : World) (hT : TabAt w) (hs : s.size ≤ maxLen) :
    Calls Tryd.prog 12 #[.string s] w fun e w' => e = ParseE s.data.toList ∧ Below w.heap.size w w' := by
  unfold maxLen at hs
  have hlen : s.data.toList.length = s.size := rfl
  by_cases h10 : s.size = 10
  · have q4 : 4 < s.size := by omega
    have q7 : 7 < s.size := by omega
    have x4 := fun w => idx_s s 4 q4 4 rfl w
    have x7 := fun w => idx_s s 7 q7 7 rfl w
    have d4 := dash_iff (s.data.toList.getD 4 0)
    have d7 := dash_iff (s.data.toList.getD 7 0)
    obtain ⟨c4, e4⟩ : ∃ c : Int, ((s.data.toList.getD 4 0).toNat : Int) = c := ⟨_, rfl⟩
    obtain ⟨c7, e7⟩ : ∃ c : Int, ((s.data.toList.getD 7 0).toNat : Int) = c := ⟨_, rfl⟩
    simp only [e4] at x4
    simp only [e7] at x7
    rw [e4] at d4
    rw [e7] at d7
    have h3 : ((s.size : Int) != 10) = false := by simp; omega
    have H10 := Lib.hid h10
    have HLE := Lib.hid hlen
    by_cases g4 : c4 = 45
    · by_cases g7 : c7 = 45
      · have z1 : (s.extract 0 4).size ≤ 4 := by simp; omega
        have z2 : (s.extract 5 7).size ≤ 4 := by simp; omega
        have z3 : (s.extract 8 s.size).size ≤ 4 := by simp; omega
        have C1 := fun w => civil_Two (s.extract 0 4) w z1
        have C2 := fun w => civil_Two (s.extract 5 7) w z2
        have C3 := fun w => civil_Two (s.extract 8 s.size) w z3
        rw [sub_bytes] at C1 C2 C3
        have HV := Lib.hid (show dateOfB s.data.toList = (twoB ((s.data.toList.drop 0).take (4 - 0)) && (twoB ((s.data.toList.drop 5).take (7 - 5)) && twoB ((s.data.toList.drop 8).take (s.size - 8)))) by
          unfold dateOfB
          rw [hlen, d4.2 g4, d7.2 g7, h10]; rfl)
        have v1 : pY s.data.toList = twoV ((s.data.toList.drop 0).take (4 - 0)) := rfl
        have v2 : pM s.data.toList = twoV ((s.data.toList.drop 5).take (7 - 5)) := rfl
        have v3 : pD s.data.toList = twoV ((s.data.toList.drop 8).take (s.size - 8)) := by rw [h10]; rfl
        obtain ⟨l1, f1⟩ : ∃ l, (s.data.toList.drop 0).take (4 - 0) = l := ⟨_, rfl⟩
        obtain ⟨l2, f2⟩ : ∃ l, (s.data.toList.drop 5).take (7 - 5) = l := ⟨_, rfl⟩
        obtain ⟨l3, f3⟩ : ∃ l, (s.data.toList.drop 8).take (s.size - 8) = l := ⟨_, rfl⟩
        rw [f1] at C1 HV v1
        rw [f2] at C2 HV v2
        rw [f3] at C3 HV v3
        subst g4 g7
        obtain ⟨L, eL⟩ : ∃ L, s.data.toList = L := ⟨_, rfl⟩
        rw [eL] at HV v1 v2 v3 ⊢
        have u0 : (10 : Int) ≤ (s.size : Int) := by omega
        have u1 : (s.size : Int) ≤ 10 := by omega
        have HT := Lib.hid hT
        clear hT f1 f2 f3 e4 e7 d4 d7 z1 z2 z3 eL hlen h10
        by_cases b1 : twoB l1 = true
        · by_cases b2 : twoB l2 = true
          · by_cases b3 : twoB l3 = true
            · have HO : dateOfB L = true := by rw [HV.out, b1, b2, b3]; rfl
              have HP := Lib.hid (show parC L = okC (dateB (twoV l1) (twoV l2) (twoV l3)) by unfold parC; rw [HO, if_pos rfl, v1, v2, v3])
              simp only [twoR, b1, b2, b3, if_true] at C1 C2 C3
              have V1 := Lib.hid v1
              have V2 := Lib.hid v2
              have V3 := Lib.hid v3
              clear v1 v2 v3 HO b1 b2 b3
              obtain ⟨Y, f1⟩ : ∃ l, twoV l1 = l := ⟨_, rfl⟩
              obtain ⟨M, f2⟩ : ∃ l, twoV l2 = l := ⟨_, rfl⟩
              obtain ⟨D, f3⟩ : ∃ l, twoV l3 = l := ⟨_, rfl⟩
              rw [f1] at C1 HP V1
              rw [f2] at C2 HP V2
              rw [f3] at C3 HP V3
              have C1 := Lib.hid C1
              have C2 := Lib.hid C2
              have C3 := Lib.hid C3
              have C4 := fun w hT => civil_Check Y M D w hT
              clear f1 f2 f3
              by_cases b4 : dateB Y M D = true
              · rw [b4] at C4
                have HE := Lib.hid (show ParseE L = .returned (.tuple #[.agg #[.int .i64 Y, .int .i64 M, .int .i64 D], .nilIface]) by
                  have : parC L = 0 := by rw [HP.out, b4]; rfl
                  unfold ParseE
                  rw [this, V1.out, V2.out, V3.out]; rfl)
                have C4 := Lib.hid C4
                clear b4
                go_enter Tryd.func12, Tryd.ntmps12
                go_wp2_with fail
                (try (go_at_call 44; refine (C1.out _).mono ?_; rintro e w1 ⟨rfl, hb1⟩; obtain ⟨hc1, hf1⟩ := bcell hb1; have hz1 := hb1.size; (try simp at hz1); (try have q1_0_0_0 : w.heap.size < w1.heap.size := by omega); (try have q1_0_0_2 : w.heap.size < w1.heap.size + 1 + 1 := by omega); (try have q1_0_0_3 : w.heap.size < w1.heap.size + 1 + 1 + 1 := by omega); (try have q1_0_1_0 : w.heap.size + 1 < w1.heap.size := by omega); (try have q1_0_1_2 : w.heap.size + 1 < w1.heap.size + 1 + 1 := by omega); (try have q1_0_1_3 : w.heap.size + 1 < w1.heap.size + 1 + 1 + 1 := by omega); (try have q1_0_2_0 : w.heap.size + 1 + 1 < w1.heap.size := by omega); (try have q1_0_2_2 : w.heap.size + 1 + 1 < w1.heap.size + 1 + 1 := by omega); (try have q1_0_2_3 : w.heap.size + 1 + 1 < w1.heap.size + 1 + 1 + 1 := by omega); (try have q1_0_3_0 : w.heap.size + 1 + 1 + 1 < w1.heap.size := by omega); (try have q1_0_3_2 : w.heap.size + 1 + 1 + 1 < w1.heap.size + 1 + 1 := by omega); (try have q1_0_3_3 : w.heap.size + 1 + 1 + 1 < w1.heap.size + 1 + 1 + 1 := by omega); (try go_wp2_with fail)))
                (try (go_at_call 44; refine (C2.out _).mono ?_; rintro e w2 ⟨rfl, hb2⟩; obtain ⟨hc2, hf2⟩ := bcell hb2; have hz2 := hb2.size; (try simp at hz2); (try have q2_0_0_0 : w.heap.size < w2.heap.size := by omega); (try have q2_0_0_2 : w.heap.size < w2.heap.size + 1 + 1 := by omega); (try have q2_0_0_3 : w.heap.size < w2.heap.size + 1 + 1 + 1 := by omega); (try have q2_0_1_0 : w.heap.size + 1 < w2.heap.size := by omega); (try have q2_0_1_2 : w.heap.size + 1 < w2.heap.size + 1 + 1 := by omega); (try have q2_0_1_3 : w.heap.size + 1 < w2.heap.size + 1 + 1 + 1 := by omega); (try have q2_0_2_0 : w.heap.size + 1 + 1 < w2.heap.size := by omega); (try have q2_0_2_2 : w.heap.size + 1 + 1 < w2.heap.size + 1 + 1 := by omega); (try have q2_0_2_3 : w.heap.size + 1 + 1 < w2.heap.size + 1 + 1 + 1 := by omega); (try have q2_0_3_0 : w.heap.size + 1 + 1 + 1 < w2.heap.size := by omega); (try have q2_0_3_2 : w.heap.size + 1 + 1 + 1 < w2.heap.size + 1 + 1 := by omega); (try have q2_0_3_3 : w.heap.size + 1 + 1 + 1 < w2.heap.size + 1 + 1 + 1 := by omega); (try have q2_1_0_0 : w1.heap.size < w2.heap.size := by omega); (try have q2_1_0_2 : w1.heap.size < w2.heap.size + 1 + 1 := by omega); (try have q2_1_1_0 : w1.heap.size + 1 < w2.heap.size := by omega); (try have q2_1_1_2 : w1.heap.size + 1 < w2.heap.size + 1 + 1 := by omega); (try go_wp2_with fail)))
                (try (go_at_call 44; refine (C3.out _).mono ?_; rintro e w3 ⟨rfl, hb3⟩; obtain ⟨hc3, hf3⟩ := bcell hb3; have hz3 := hb3.size; (try simp at hz3); (try have q3_0_0_0 : w.heap.size < w3.heap.size := by omega); (try have q3_0_0_2 : w.heap.size < w3.heap.size + 1 + 1 := by omega); (try have q3_0_0_3 : w.heap.size < w3.heap.size + 1 + 1 + 1 := by omega); (try have q3_0_1_0 : w.heap.size + 1 < w3.heap.size := by omega); (try have q3_0_1_2 : w.heap.size + 1 < w3.heap.size + 1 + 1 := by omega); (try have q3_0_1_3 : w.heap.size + 1 < w3.heap.size + 1 + 1 + 1 := by omega); (try have q3_0_2_0 : w.heap.size + 1 + 1 < w3.heap.size := by omega); (try have q3_0_2_2 : w.heap.size + 1 + 1 < w3.heap.size + 1 + 1 := by omega); (try have q3_0_2_3 : w.heap.size + 1 + 1 < w3.heap.size + 1 + 1 + 1 := by omega); (try have q3_0_3_0 : w.heap.size + 1 + 1 + 1 < w3.heap.size := by omega); (try have q3_0_3_2 : w.heap.size + 1 + 1 + 1 < w3.heap.size + 1 + 1 := by omega); (try have q3_0_3_3 : w.heap.size + 1 + 1 + 1 < w3.heap.size + 1 + 1 + 1 := by omega); (try have q3_1_0_0 : w1.heap.size < w3.heap.size := by omega); (try have q3_1_0_2 : w1.heap.size < w3.heap.size + 1 + 1 := by omega); (try have q3_1_1_0 : w1.heap.size + 1 < w3.heap.size := by omega); (try have q3_1_1_2 : w1.heap.size + 1 < w3.heap.size + 1 + 1 := by omega); (try have q3_2_0_0 : w2.heap.size < w3.heap.size := by omega); (try have q3_2_0_2 : w2.heap.size < w3.heap.size + 1 + 1 := by omega); (try have q3_2_1_0 : w2.heap.size + 1 < w3.heap.size := by omega); (try have q3_2_1_2 : w2.heap.size + 1 < w3.heap.size + 1 + 1 := by omega); (try go_wp2_with fail)))
                (try (go_at_call 24; refine (C4.out _ (HT.out.below (by repeat (first | with_reducible exact Below.refl _ _ | (with_reducible refine Below.alloc ?_ (by first | omega | (simp; done) | (simp; omega)) _) | (with_reducible refine Below.setCell ?_ (by first | omega | (simp; done) | (simp; omega)) _) | (with_reducible refine Below.drew ?_) | (with_reducible refine below_drewN ?_ _) | (with_reducible assumption) | (with_reducible refine bel_step (by with_reducible assumption) ?_ (by first | omega | (simp; done) | (simp; omega))))))).mono ?_; rintro e w4 ⟨rfl, hb4⟩; obtain ⟨hc4, hf4⟩ := bcell hb4; have hz4 := hb4.size; (try simp at hz4); (try have q4_0_0_0 : w.heap.size < w4.heap.size := by omega); (try have q4_0_0_2 : w.heap.size < w4.heap.size + 1 + 1 := by omega); (try have q4_0_0_3 : w.heap.size < w4.heap.size + 1 + 1 + 1 := by omega); (try have q4_0_1_0 : w.heap.size + 1 < w4.heap.size := by omega); (try have q4_0_1_2 : w.heap.size + 1 < w4.heap.size + 1 + 1 := by omega); (try have q4_0_1_3 : w.heap.size + 1 < w4.heap.size + 1 + 1 + 1 := by omega); (try have q4_0_2_0 : w.heap.size + 1 + 1 < w4.heap.size := by omega); (try have q4_0_2_2 : w.heap.size + 1 + 1 < w4.heap.size + 1 + 1 := by omega); (try have q4_0_2_3 : w.heap.size + 1 + 1 < w4.heap.size + 1 + 1 + 1 := by omega); (try have q4_0_3_0 : w.heap.size + 1 + 1 + 1 < w4.heap.size := by omega); (try have q4_0_3_2 : w.heap.size + 1 + 1 + 1 < w4.heap.size + 1 + 1 := by omega); (try have q4_0_3_3 : w.heap.size + 1 + 1 + 1 < w4.heap.size + 1 + 1 + 1 := by omega); (try have q4_1_0_0 : w1.heap.size < w4.heap.size := by omega); (try have q4_1_0_2 : w1.heap.size < w4.heap.size + 1 + 1 := by omega); (try have q4_1_1_0 : w1.heap.size + 1 < w4.heap.size := by omega); (try have q4_1_1_2 : w1.heap.size + 1 < w4.heap.size + 1 + 1 := by omega); (try have q4_2_0_0 : w2.heap.size < w4.heap.size := by omega); (try have q4_2_0_2 : w2.heap.size < w4.heap.size + 1 + 1 := by omega); (try have q4_2_1_0 : w2.heap.size + 1 < w4.heap.size := by omega); (try have q4_2_1_2 : w2.heap.size + 1 < w4.heap.size + 1 + 1 := by omega); (try have q4_3_0_0 : w3.heap.size < w4.heap.size := by omega); (try have q4_3_0_2 : w3.heap.size < w4.heap.size + 1 + 1 := by omega); (try have q4_3_1_0 : w3.heap.size + 1 < w4.heap.size := by omega); (try have q4_3_1_2 : w3.heap.size + 1 < w4.heap.size + 1 + 1 := by omega); (try go_wp2_with fail)))
                have r0 : w4.cell? ⟨w.heap.size, 0, none⟩ = some (.int .i64 0) := (Below.cell (B := (w.alloc (.cells #[.int .i64 0, .int .i64 0, .int .i64 0] 27)).heap.size) (w := w.alloc (.cells #[.int .i64 0, .int .i64 0, .int .i64 0] 27)) (by repeat (first | with_reducible exact Below.refl _ _ | (with_reducible refine Below.alloc ?_ (by first | omega | (simp; done) | (simp; omega)) _) | (with_reducible refine Below.setCell ?_ (by first | omega | (simp; done) | (simp; omega)) _) | (with_reducible refine Below.drew ?_) | (with_reducible refine below_drewN ?_ _) | (with_reducible assumption) | (with_reducible refine bel_step (by with_reducible assumption) ?_ (by first | omega | (simp; done) | (simp; omega))))) (by simp)).trans (by simp)
                have r1 : w4.cell? ⟨w.heap.size, 1, none⟩ = some (.int .i64 0) := (Below.cell (B := (w.alloc (.cells #[.int .i64 0, .int .i64 0, .int .i64 0] 27)).heap.size) (w := w.alloc (.cells #[.int .i64 0, .int .i64 0, .int .i64 0] 27)) (by repeat (first | with_reducible exact Below.refl _ _ | (with_reducible refine Below.alloc ?_ (by first | omega | (simp; done) | (simp; omega)) _) | (with_reducible refine Below.setCell ?_ (by first | omega | (simp; done) | (simp; omega)) _) | (with_reducible refine Below.drew ?_) | (with_reducible refine below_drewN ?_ _) | (with_reducible assumption) | (with_reducible refine bel_step (by with_reducible assumption) ?_ (by first | omega | (simp; done) | (simp; omega))))) (by simp)).trans (by simp)
                have r2 : w4.cell? ⟨w.heap.size, 2, none⟩ = some (.int .i64 0) := (Below.cell (B := (w.alloc (.cells #[.int .i64 0, .int .i64 0, .int .i64 0] 27)).heap.size) (w := w.alloc (.cells #[.int .i64 0, .int .i64 0, .int .i64 0] 27)) (by repeat (first | with_reducible exact Below.refl _ _ | (with_reducible refine Below.alloc ?_ (by first | omega | (simp; done) | (simp; omega)) _) | (with_reducible refine Below.setCell ?_ (by first | omega | (simp; done) | (simp; omega)) _) | (with_reducible refine Below.drew ?_) | (with_reducible refine below_drewN ?_ _) | (with_reducible assumption) | (with_reducible refine bel_step (by with_reducible assumption) ?_ (by first | omega | (simp; done) | (simp; omega))))) (by simp)).trans (by simp)
                rw [HE.out]
                refine bodyPost_ret (v := (.tuple #[.agg #[.int .i64 Y, .int .i64 M, .int .i64 D], .nilIface])) (by simp [results, Tryd.results12, go_sem, errV, okC, *]) rfl ⟨rfl, ?_⟩; exact (by repeat (first | with_reducible exact Below.refl _ _ | (with_reducible refine Below.alloc ?_ (by first | omega | (simp; done) | (simp; omega)) _) | (with_reducible refine Below.setCell ?_ (by first | omega | (simp; done) | (simp; omega)) _) | (with_reducible refine Below.drew ?_) | (with_reducible refine below_drewN ?_ _) | (with_reducible assumption) | (with_reducible refine bel_step (by with_reducible assumption) ?_ (by first | omega | (simp; done) | (simp; omega)))))
              · have b4 : dateB Y M D = false := by simpa using b4
                rw [b4] at C4
                have HE := Lib.hid (show ParseE L = .returned (.tuple #[.agg #[.int .i64 0, .int .i64 0, .int .i64 0], .iface 71 (.int .i64 1)]) by
                  have : parC L = 1 := by rw [HP.out, b4]; rfl
                  unfold ParseE
                  rw [this]; rfl)
                have C4 := Lib.hid C4
                clear b4
                go_enter Tryd.func12, Tryd.ntmps12
                go_wp2_with fail
                (try (go_at_call 44; refine (C1.out _).mono ?_; rintro e w1 ⟨rfl, hb1⟩; obtain ⟨hc1, hf1⟩ := bcell hb1; have hz1 := hb1.size; (try simp at hz1); (try have q1_0_0_0 : w.heap.size < w1.heap.size := by omega); (try have q1_0_0_2 : w.heap.size < w1.heap.size + 1 + 1 := by omega); (try have q1_0_0_3 : w.heap.size < w1.heap.size + 1 + 1 + 1 := by omega); (try have q1_0_1_0 : w.heap.size + 1 < w1.heap.size := by omega); (try have q1_0_1_2 : w.heap.size + 1 < w1.heap.size + 1 + 1 := by omega); (try have q1_0_1_3 : w.heap.size + 1 < w1.heap.size + 1 + 1 + 1 := by omega); (try have q1_0_2_0 : w.heap.size + 1 + 1 < w1.heap.size := by omega); (try have q1_0_2_2 : w.heap.size + 1 + 1 < w1.heap.size + 1 + 1 := by omega); (try have q1_0_2_3 : w.heap.size + 1 + 1 < w1.heap.size + 1 + 1 + 1 := by omega); (try have q1_0_3_0 : w.heap.size + 1 + 1 + 1 < w1.heap.size := by omega); (try have q1_0_3_2 : w.heap.size + 1 + 1 + 1 < w1.heap.size + 1 + 1 := by omega); (try have q1_0_3_3 : w.heap.size + 1 + 1 + 1 < w1.heap.size + 1 + 1 + 1 := by omega); (try go_wp2_with fail)))
                (try (go_at_call 44; refine (C2.out _).mono ?_; rintro e w2 ⟨rfl, hb2⟩; obtain ⟨hc2, hf2⟩ := bcell hb2; have hz2 := hb2.size; (try simp at hz2); (try have q2_0_0_0 : w.heap.size < w2.heap.size := by omega); (try have q2_0_0_2 : w.heap.size < w2.heap.size + 1 + 1 := by omega); (try have q2_0_0_3 : w.heap.size < w2.heap.size + 1 + 1 + 1 := by omega); (try have q2_0_1_0 : w.heap.size + 1 < w2.heap.size := by omega); (try have q2_0_1_2 : w.heap.size + 1 < w2.heap.size + 1 + 1 := by omega); (try have q2_0_1_3 : w.heap.size + 1 < w2.heap.size + 1 + 1 + 1 := by omega); (try have q2_0_2_0 : w.heap.size + 1 + 1 < w2.heap.size := by omega); (try have q2_0_2_2 : w.heap.size + 1 + 1 < w2.heap.size + 1 + 1 := by omega); (try have q2_0_2_3 : w.heap.size + 1 + 1 < w2.heap.size + 1 + 1 + 1 := by omega); (try have q2_0_3_0 : w.heap.size + 1 + 1 + 1 < w2.heap.size := by omega); (try have q2_0_3_2 : w.heap.size + 1 + 1 + 1 < w2.heap.size + 1 + 1 := by omega); (try have q2_0_3_3 : w.heap.size + 1 + 1 + 1 < w2.heap.size + 1 + 1 + 1 := by omega); (try have q2_1_0_0 : w1.heap.size < w2.heap.size := by omega); (try have q2_1_0_2 : w1.heap.size < w2.heap.size + 1 + 1 := by omega); (try have q2_1_1_0 : w1.heap.size + 1 < w2.heap.size := by omega); (try have q2_1_1_2 : w1.heap.size + 1 < w2.heap.size + 1 + 1 := by omega); (try go_wp2_with fail)))
                (try (go_at_call 44; refine (C3.out _).mono ?_; rintro e w3 ⟨rfl, hb3⟩; obtain ⟨hc3, hf3⟩ := bcell hb3; have hz3 := hb3.size; (try simp at hz3); (try have q3_0_0_0 : w.heap.size < w3.heap.size := by omega); (try have q3_0_0_2 : w.heap.size < w3.heap.size + 1 + 1 := by omega); (try have q3_0_0_3 : w.heap.size < w3.heap.size + 1 + 1 + 1 := by omega); (try have q3_0_1_0 : w.heap.size + 1 < w3.heap.size := by omega); (try have q3_0_1_2 : w.heap.size + 1 < w3.heap.size + 1 + 1 := by omega); (try have q3_0_1_3 : w.heap.size + 1 < w3.heap.size + 1 + 1 + 1 := by omega); (try have q3_0_2_0 : w.heap.size + 1 + 1 < w3.heap.size := by omega); (try have q3_0_2_2 : w.heap.size + 1 + 1 < w3.heap.size + 1 + 1 := by omega); (try have q3_0_2_3 : w.heap.size + 1 + 1 < w3.heap.size + 1 + 1 + 1 := by omega); (try have q3_0_3_0 : w.heap.size + 1 + 1 + 1 < w3.heap.size := by omega); (try have q3_0_3_2 : w.heap.size + 1 + 1 + 1 < w3.heap.size + 1 + 1 := by omega); (try have q3_0_3_3 : w.heap.size + 1 + 1 + 1 < w3.heap.size + 1 + 1 + 1 := by omega); (try have q3_1_0_0 : w1.heap.size < w3.heap.size := by omega); (try have q3_1_0_2 : w1.heap.size < w3.heap.size + 1 + 1 := by omega); (try have q3_1_1_0 : w1.heap.size + 1 < w3.heap.size := by omega); (try have q3_1_1_2 : w1.heap.size + 1 < w3.heap.size + 1 + 1 := by omega); (try have q3_2_0_0 : w2.heap.size < w3.heap.size := by omega); (try have q3_2_0_2 : w2.heap.size < w3.heap.size + 1 + 1 := by omega); (try have q3_2_1_0 : w2.heap.size + 1 < w3.heap.size := by omega); (try have q3_2_1_2 : w2.heap.size + 1 < w3.heap.size + 1 + 1 := by omega); (try go_wp2_with fail)))
                (try (go_at_call 24; refine (C4.out _ (HT.out.below (by repeat (first | with_reducible exact Below.refl _ _ | (with_reducible refine Below.alloc ?_ (by first | omega | (simp; done) | (simp; omega)) _) | (with_reducible refine Below.setCell ?_ (by first | omega | (simp; done) | (simp; omega)) _) | (with_reducible refine Below.drew ?_) | (with_reducible refine below_drewN ?_ _) | (with_reducible assumption) | (with_reducible refine bel_step (by with_reducible assumption) ?_ (by first | omega | (simp; done) | (simp; omega))))))).mono ?_; rintro e w4 ⟨rfl, hb4⟩; obtain ⟨hc4, hf4⟩ := bcell hb4; have hz4 := hb4.size; (try simp at hz4); (try have q4_0_0_0 : w.heap.size < w4.heap.size := by omega); (try have q4_0_0_2 : w.heap.size < w4.heap.size + 1 + 1 := by omega); (try have q4_0_0_3 : w.heap.size < w4.heap.size + 1 + 1 + 1 := by omega); (try have q4_0_1_0 : w.heap.size + 1 < w4.heap.size := by omega); (try have q4_0_1_2 : w.heap.size + 1 < w4.heap.size + 1 + 1 := by omega); (try have q4_0_1_3 : w.heap.size + 1 < w4.heap.size + 1 + 1 + 1 := by omega); (try have q4_0_2_0 : w.heap.size + 1 + 1 < w4.heap.size := by omega); (try have q4_0_2_2 : w.heap.size + 1 + 1 < w4.heap.size + 1 + 1 := by omega); (try have q4_0_2_3 : w.heap.size + 1 + 1 < w4.heap.size + 1 + 1 + 1 := by omega); (try have q4_0_3_0 : w.heap.size + 1 + 1 + 1 < w4.heap.size := by omega); (try have q4_0_3_2 : w.heap.size + 1 + 1 + 1 < w4.heap.size + 1 + 1 := by omega); (try have q4_0_3_3 : w.heap.size + 1 + 1 + 1 < w4.heap.size + 1 + 1 + 1 := by omega); (try have q4_1_0_0 : w1.heap.size < w4.heap.size := by omega); (try have q4_1_0_2 : w1.heap.size < w4.heap.size + 1 + 1 := by omega); (try have q4_1_1_0 : w1.heap.size + 1 < w4.heap.size := by omega); (try have q4_1_1_2 : w1.heap.size + 1 < w4.heap.size + 1 + 1 := by omega); (try have q4_2_0_0 : w2.heap.size < w4.heap.size := by omega); (try have q4_2_0_2 : w2.heap.size < w4.heap.size + 1 + 1 := by omega); (try have q4_2_1_0 : w2.heap.size + 1 < w4.heap.size := by omega); (try have q4_2_1_2 : w2.heap.size + 1 < w4.heap.size + 1 + 1 := by omega); (try have q4_3_0_0 : w3.heap.size < w4.heap.size := by omega); (try have q4_3_0_2 : w3.heap.size < w4.heap.size + 1 + 1 := by omega); (try have q4_3_1_0 : w3.heap.size + 1 < w4.heap.size := by omega); (try have q4_3_1_2 : w3.heap.size + 1 < w4.heap.size + 1 + 1 := by omega); (try go_wp2_with fail)))
                have r0 : w4.cell? ⟨w.heap.size, 0, none⟩ = some (.int .i64 0) := (Below.cell (B := (w.alloc (.cells #[.int .i64 0, .int .i64 0, .int .i64 0] 27)).heap.size) (w := w.alloc (.cells #[.int .i64 0, .int .i64 0, .int .i64 0] 27)) (by repeat (first | with_reducible exact Below.refl _ _ | (with_reducible refine Below.alloc ?_ (by first | omega | (simp; done) | (simp; omega)) _) | (with_reducible refine Below.setCell ?_ (by first | omega | (simp; done) | (simp; omega)) _) | (with_reducible refine Below.drew ?_) | (with_reducible refine below_drewN ?_ _) | (with_reducible assumption) | (with_reducible refine bel_step (by with_reducible assumption) ?_ (by first | omega | (simp; done) | (simp; omega))))) (by simp)).trans (by simp)
                have r1 : w4.cell? ⟨w.heap.size, 1, none⟩ = some (.int .i64 0) := (Below.cell (B := (w.alloc (.cells #[.int .i64 0, .int .i64 0, .int .i64 0] 27)).heap.size) (w := w.alloc (.cells #[.int .i64 0, .int .i64 0, .int .i64 0] 27)) (by repeat (first | with_reducible exact Below.refl _ _ | (with_reducible refine Below.alloc ?_ (by first | omega | (simp; done) | (simp; omega)) _) | (with_reducible refine Below.setCell ?_ (by first | omega | (simp; done) | (simp; omega)) _) | (with_reducible refine Below.drew ?_) | (with_reducible refine below_drewN ?_ _) | (with_reducible assumption) | (with_reducible refine bel_step (by with_reducible assumption) ?_ (by first | omega | (simp; done) | (simp; omega))))) (by simp)).trans (by simp)
                have r2 : w4.cell? ⟨w.heap.size, 2, none⟩ = some (.int .i64 0) := (Below.cell (B := (w.alloc (.cells #[.int .i64 0, .int .i64 0, .int .i64 0] 27)).heap.size) (w := w.alloc (.cells #[.int .i64 0, .int .i64 0, .int .i64 0] 27)) (by repeat (first | with_reducible exact Below.refl _ _ | (with_reducible refine Below.alloc ?_ (by first | omega | (simp; done) | (simp; omega)) _) | (with_reducible refine Below.setCell ?_ (by first | omega | (simp; done) | (simp; omega)) _) | (with_reducible refine Below.drew ?_) | (with_reducible refine below_drewN ?_ _) | (with_reducible assumption) | (with_reducible refine bel_step (by with_reducible assumption) ?_ (by first | omega | (simp; done) | (simp; omega))))) (by simp)).trans (by simp)
                rw [HE.out]
                refine bodyPost_ret (v := (.tuple #[.agg #[.int .i64 0, .int .i64 0, .int .i64 0], .iface 71 (.int .i64 1)])) (by simp [results, Tryd.results12, go_sem, errV, okC, *]) rfl ⟨rfl, ?_⟩; exact (by repeat (first | with_reducible exact Below.refl _ _ | (with_reducible refine Below.alloc ?_ (by first | omega | (simp; done) | (simp; omega)) _) | (with_reducible refine Below.setCell ?_ (by first | omega | (simp; done) | (simp; omega)) _) | (with_reducible refine Below.drew ?_) | (with_reducible refine below_drewN ?_ _) | (with_reducible assumption) | (with_reducible refine bel_step (by with_reducible assumption) ?_ (by first | omega | (simp; done) | (simp; omega)))))
            · obtain ⟨q1, o1⟩ : ∃ q, twoB l1 = q := ⟨_, rfl⟩
              obtain ⟨q2, o2⟩ : ∃ q, twoB l2 = q := ⟨_, rfl⟩
              obtain ⟨q3, o3⟩ : ∃ q, twoB l3 = q := ⟨_, rfl⟩
              rw [o1] at HV C1 b1
              rw [o2] at HV C2 b2
              rw [o3] at HV C3 b3
              clear o1 o2 o3
              obtain ⟨R1, o1⟩ : ∃ q, twoR l1 = q := ⟨_, rfl⟩
              obtain ⟨R2, o2⟩ : ∃ q, twoR l2 = q := ⟨_, rfl⟩
              obtain ⟨R3, o3⟩ : ∃ q, twoR l3 = q := ⟨_, rfl⟩
              rw [o1] at C1
              rw [o2] at C2
              rw [o3] at C3
              clear o1 o2 o3
              obtain rfl : q1 = true := by simpa using b1
              obtain rfl : q2 = true := by simpa using b2
              obtain rfl : q3 = false := by simpa using b3
              have HE := Lib.hid (ParseE_no (l := L) (by rw [HV.out]; simp))
              clear b1 b2 b3
              have C1 := Lib.hid C1
              have C2 := Lib.hid C2
              have C3 := Lib.hid C3
              clear v1 v2 v3 HV
              go_enter Tryd.func12, Tryd.ntmps12
              go_wp2_with fail
              (try (go_at_call 44; refine (C1.out _).mono ?_; rintro e w1 ⟨rfl, hb1⟩; obtain ⟨hc1, hf1⟩ := bcell hb1; have hz1 := hb1.size; (try simp at hz1); (try have q1_0_0_0 : w.heap.size < w1.heap.size := by omega); (try have q1_0_0_2 : w.heap.size < w1.heap.size + 1 + 1 := by omega); (try have q1_0_0_3 : w.heap.size < w1.heap.size + 1 + 1 + 1 := by omega); (try have q1_0_1_0 : w.heap.size + 1 < w1.heap.size := by omega); (try have q1_0_1_2 : w.heap.size + 1 < w1.heap.size + 1 + 1 := by omega); (try have q1_0_1_3 : w.heap.size + 1 < w1.heap.size + 1 + 1 + 1 := by omega); (try have q1_0_2_0 : w.heap.size + 1 + 1 < w1.heap.size := by omega); (try have q1_0_2_2 : w.heap.size + 1 + 1 < w1.heap.size + 1 + 1 := by omega); (try have q1_0_2_3 : w.heap.size + 1 + 1 < w1.heap.size + 1 + 1 + 1 := by omega); (try have q1_0_3_0 : w.heap.size + 1 + 1 + 1 < w1.heap.size := by omega); (try have q1_0_3_2 : w.heap.size + 1 + 1 + 1 < w1.heap.size + 1 + 1 := by omega); (try have q1_0_3_3 : w.heap.size + 1 + 1 + 1 < w1.heap.size + 1 + 1 + 1 := by omega); (try go_wp2_with fail)))
              (try (go_at_call 44; refine (C2.out _).mono ?_; rintro e w2 ⟨rfl, hb2⟩; obtain ⟨hc2, hf2⟩ := bcell hb2; have hz2 := hb2.size; (try simp at hz2); (try have q2_0_0_0 : w.heap.size < w2.heap.size := by omega); (try have q2_0_0_2 : w.heap.size < w2.heap.size + 1 + 1 := by omega); (try have q2_0_0_3 : w.heap.size < w2.heap.size + 1 + 1 + 1 := by omega); (try have q2_0_1_0 : w.heap.size + 1 < w2.heap.size := by omega); (try have q2_0_1_2 : w.heap.size + 1 < w2.heap.size + 1 + 1 := by omega); (try have q2_0_1_3 : w.heap.size + 1 < w2.heap.size + 1 + 1 + 1 := by omega); (try have q2_0_2_0 : w.heap.size + 1 + 1 < w2.heap.size := by omega); (try have q2_0_2_2 : w.heap.size + 1 + 1 < w2.heap.size + 1 + 1 := by omega); (try have q2_0_2_3 : w.heap.size + 1 + 1 < w2.heap.size + 1 + 1 + 1 := by omega); (try have q2_0_3_0 : w.heap.size + 1 + 1 + 1 < w2.heap.size := by omega); (try have q2_0_3_2 : w.heap.size + 1 + 1 + 1 < w2.heap.size + 1 + 1 := by omega); (try have q2_0_3_3 : w.heap.size + 1 + 1 + 1 < w2.heap.size + 1 + 1 + 1 := by omega); (try have q2_1_0_0 : w1.heap.size < w2.heap.size := by omega); (try have q2_1_0_2 : w1.heap.size < w2.heap.size + 1 + 1 := by omega); (try have q2_1_1_0 : w1.heap.size + 1 < w2.heap.size := by omega); (try have q2_1_1_2 : w1.heap.size + 1 < w2.heap.size + 1 + 1 := by omega); (try go_wp2_with fail)))
              (try (go_at_call 44; refine (C3.out _).mono ?_; rintro e w3 ⟨rfl, hb3⟩; obtain ⟨hc3, hf3⟩ := bcell hb3; have hz3 := hb3.size; (try simp at hz3); (try have q3_0_0_0 : w.heap.size < w3.heap.size := by omega); (try have q3_0_0_2 : w.heap.size < w3.heap.size + 1 + 1 := by omega); (try have q3_0_0_3 : w.heap.size < w3.heap.size + 1 + 1 + 1 := by omega); (try have q3_0_1_0 : w.heap.size + 1 < w3.heap.size := by omega); (try have q3_0_1_2 : w.heap.size + 1 < w3.heap.size + 1 + 1 := by omega); (try have q3_0_1_3 : w.heap.size + 1 < w3.heap.size + 1 + 1 + 1 := by omega); (try have q3_0_2_0 : w.heap.size + 1 + 1 < w3.heap.size := by omega); (try have q3_0_2_2 : w.heap.size + 1 + 1 < w3.heap.size + 1 + 1 := by omega); (try have q3_0_2_3 : w.heap.size + 1 + 1 < w3.heap.size + 1 + 1 + 1 := by omega); (try have q3_0_3_0 : w.heap.size + 1 + 1 + 1 < w3.heap.size := by omega); (try have q3_0_3_2 : w.heap.size + 1 + 1 + 1 < w3.heap.size + 1 + 1 := by omega); (try have q3_0_3_3 : w.heap.size + 1 + 1 + 1 < w3.heap.size + 1 + 1 + 1 := by omega); (try have q3_1_0_0 : w1.heap.size < w3.heap.size := by omega); (try have q3_1_0_2 : w1.heap.size < w3.heap.size + 1 + 1 := by omega); (try have q3_1_1_0 : w1.heap.size + 1 < w3.heap.size := by omega); (try have q3_1_1_2 : w1.heap.size + 1 < w3.heap.size + 1 + 1 := by omega); (try have q3_2_0_0 : w2.heap.size < w3.heap.size := by omega); (try have q3_2_0_2 : w2.heap.size < w3.heap.size + 1 + 1 := by omega); (try have q3_2_1_0 : w2.heap.size + 1 < w3.heap.size := by omega); (try have q3_2_1_2 : w2.heap.size + 1 < w3.heap.size + 1 + 1 := by omega); (try go_wp2_with fail)))
              have r0 : w3.cell? ⟨w.heap.size, 0, none⟩ = some (.int .i64 0) := (Below.cell (B := (w.alloc (.cells #[.int .i64 0, .int .i64 0, .int .i64 0] 27)).heap.size) (w := w.alloc (.cells #[.int .i64 0, .int .i64 0, .int .i64 0] 27)) (by repeat (first | with_reducible exact Below.refl _ _ | (with_reducible refine Below.alloc ?_ (by first | omega | (simp; done) | (simp; omega)) _) | (with_reducible refine Below.setCell ?_ (by first | omega | (simp; done) | (simp; omega)) _) | (with_reducible refine Below.drew ?_) | (with_reducible refine below_drewN ?_ _) | (with_reducible assumption) | (with_reducible refine bel_step (by with_reducible assumption) ?_ (by first | omega | (simp; done) | (simp; omega))))) (by simp)).trans (by simp)
              have r1 : w3.cell? ⟨w.heap.size, 1, none⟩ = some (.int .i64 0) := (Below.cell (B := (w.alloc (.cells #[.int .i64 0, .int .i64 0, .int .i64 0] 27)).heap.size) (w := w.alloc (.cells #[.int .i64 0, .int .i64 0, .int .i64 0] 27)) (by repeat (first | with_reducible exact Below.refl _ _ | (with_reducible refine Below.alloc ?_ (by first | omega | (simp; done) | (simp; omega)) _) | (with_reducible refine Below.setCell ?_ (by first | omega | (simp; done) | (simp; omega)) _) | (with_reducible refine Below.drew ?_) | (with_reducible refine below_drewN ?_ _) | (with_reducible assumption) | (with_reducible refine bel_step (by with_reducible assumption) ?_ (by first | omega | (simp; done) | (simp; omega))))) (by simp)).trans (by simp)
              have r2 : w3.cell? ⟨w.heap.size, 2, none⟩ = some (.int .i64 0) := (Below.cell (B := (w.alloc (.cells #[.int .i64 0, .int .i64 0, .int .i64 0] 27)).heap.size) (w := w.alloc (.cells #[.int .i64 0, .int .i64 0, .int .i64 0] 27)) (by repeat (first | with_reducible exact Below.refl _ _ | (with_reducible refine Below.alloc ?_ (by first | omega | (simp; done) | (simp; omega)) _) | (with_reducible refine Below.setCell ?_ (by first | omega | (simp; done) | (simp; omega)) _) | (with_reducible refine Below.drew ?_) | (with_reducible refine below_drewN ?_ _) | (with_reducible assumption) | (with_reducible refine bel_step (by with_reducible assumption) ?_ (by first | omega | (simp; done) | (simp; omega))))) (by simp)).trans (by simp)
              rw [HE.out]
              refine bodyPost_ret (v := (.tuple #[.agg #[.int .i64 0, .int .i64 0, .int .i64 0], .iface 71 (.int .i64 2)])) (by simp [results, Tryd.results12, go_sem, errV, okC, *]) rfl ⟨rfl, ?_⟩; exact (by repeat (first | with_reducible exact Below.refl _ _ | (with_reducible refine Below.alloc ?_ (by first | omega | (simp; done) | (simp; omega)) _) | (with_reducible refine Below.setCell ?_ (by first | omega | (simp; done) | (simp; omega)) _) | (with_reducible refine Below.drew ?_) | (with_reducible refine below_drewN ?_ _) | (with_reducible assumption) | (with_reducible refine bel_step (by with_reducible assumption) ?_ (by first | omega | (simp; done) | (simp; omega)))))
          · obtain ⟨q1, o1⟩ : ∃ q, twoB l1 = q := ⟨_, rfl⟩
            obtain ⟨q2, o2⟩ : ∃ q, twoB l2 = q := ⟨_, rfl⟩
            obtain ⟨q3, o3⟩ : ∃ q, twoB l3 = q := ⟨_, rfl⟩
            rw [o1] at HV C1 b1
            rw [o2] at HV C2 b2
            rw [o3] at HV C3
            clear o1 o2 o3
            obtain ⟨R1, o1⟩ : ∃ q, twoR l1 = q := ⟨_, rfl⟩
            obtain ⟨R2, o2⟩ : ∃ q, twoR l2 = q := ⟨_, rfl⟩
            obtain ⟨R3, o3⟩ : ∃ q, twoR l3 = q := ⟨_, rfl⟩
            rw [o1] at C1
            rw [o2] at C2
            rw [o3] at C3
            clear o1 o2 o3
            obtain rfl : q1 = true := by simpa using b1
            obtain rfl : q2 = false := by simpa using b2
            have HE := Lib.hid (ParseE_no (l := L) (by rw [HV.out]; simp))
            clear b1 b2
            have C1 := Lib.hid C1
            have C2 := Lib.hid C2
            have C3 := Lib.hid C3
            clear v1 v2 v3 HV
            go_enter Tryd.func12, Tryd.ntmps12
            go_wp2_with fail
            (try (go_at_call 44; refine (C1.out _).mono ?_; rintro e w1 ⟨rfl, hb1⟩; obtain ⟨hc1, hf1⟩ := bcell hb1; have hz1 := hb1.size; (try simp at hz1); (try have q1_0_0_0 : w.heap.size < w1.heap.size := by omega); (try have q1_0_0_2 : w.heap.size < w1.heap.size + 1 + 1 := by omega); (try have q1_0_0_3 : w.heap.size < w1.heap.size + 1 + 1 + 1 := by omega); (try have q1_0_1_0 : w.heap.size + 1 < w1.heap.size := by omega); (try have q1_0_1_2 : w.heap.size + 1 < w1.heap.size + 1 + 1 := by omega); (try have q1_0_1_3 : w.heap.size + 1 < w1.heap.size + 1 + 1 + 1 := by omega); (try have q1_0_2_0 : w.heap.size + 1 + 1 < w1.heap.size := by omega); (try have q1_0_2_2 : w.heap.size + 1 + 1 < w1.heap.size + 1 + 1 := by omega); (try have q1_0_2_3 : w.heap.size + 1 + 1 < w1.heap.size + 1 + 1 + 1 := by omega); (try have q1_0_3_0 : w.heap.size + 1 + 1 + 1 < w1.heap.size := by omega); (try have q1_0_3_2 : w.heap.size + 1 + 1 + 1 < w1.heap.size + 1 + 1 := by omega); (try have q1_0_3_3 : w.heap.size + 1 + 1 + 1 < w1.heap.size + 1 + 1 + 1 := by omega); (try go_wp2_with fail)))
            (try (go_at_call 44; refine (C2.out _).mono ?_; rintro e w2 ⟨rfl, hb2⟩; obtain ⟨hc2, hf2⟩ := bcell hb2; have hz2 := hb2.size; (try simp at hz2); (try have q2_0_0_0 : w.heap.size < w2.heap.size := by omega); (try have q2_0_0_2 : w.heap.size < w2.heap.size + 1 + 1 := by omega); (try have q2_0_0_3 : w.heap.size < w2.heap.size + 1 + 1 + 1 := by omega); (try have q2_0_1_0 : w.heap.size + 1 < w2.heap.size := by omega); (try have q2_0_1_2 : w.heap.size + 1 < w2.heap.size + 1 + 1 := by omega); (try have q2_0_1_3 : w.heap.size + 1 < w2.heap.size + 1 + 1 + 1 := by omega); (try have q2_0_2_0 : w.heap.size + 1 + 1 < w2.heap.size := by omega); (try have q2_0_2_2 : w.heap.size + 1 + 1 < w2.heap.size + 1 + 1 := by omega); (try have q2_0_2_3 : w.heap.size + 1 + 1 < w2.heap.size + 1 + 1 + 1 := by omega); (try have q2_0_3_0 : w.heap.size + 1 + 1 + 1 < w2.heap.size := by omega); (try have q2_0_3_2 : w.heap.size + 1 + 1 + 1 < w2.heap.size + 1 + 1 := by omega); (try have q2_0_3_3 : w.heap.size + 1 + 1 + 1 < w2.heap.size + 1 + 1 + 1 := by omega); (try have q2_1_0_0 : w1.heap.size < w2.heap.size := by omega); (try have q2_1_0_2 : w1.heap.size < w2.heap.size + 1 + 1 := by omega); (try have q2_1_1_0 : w1.heap.size + 1 < w2.heap.size := by omega); (try have q2_1_1_2 : w1.heap.size + 1 < w2.heap.size + 1 + 1 := by omega); (try go_wp2_with fail)))
            (try (go_at_call 44; refine (C3.out _).mono ?_; rintro e w3 ⟨rfl, hb3⟩; obtain ⟨hc3, hf3⟩ := bcell hb3; have hz3 := hb3.size; (try simp at hz3); (try have q3_0_0_0 : w.heap.size < w3.heap.size := by omega); (try have q3_0_0_2 : w.heap.size < w3.heap.size + 1 + 1 := by omega); (try have q3_0_0_3 : w.heap.size < w3.heap.size + 1 + 1 + 1 := by omega); (try have q3_0_1_0 : w.heap.size + 1 < w3.heap.size := by omega); (try have q3_0_1_2 : w.heap.size + 1 < w3.heap.size + 1 + 1 := by omega); (try have q3_0_1_3 : w.heap.size + 1 < w3.heap.size + 1 + 1 + 1 := by omega); (try have q3_0_2_0 : w.heap.size + 1 + 1 < w3.heap.size := by omega); (try have q3_0_2_2 : w.heap.size + 1 + 1 < w3.heap.size + 1 + 1 := by omega); (try have q3_0_2_3 : w.heap.size + 1 + 1 < w3.heap.size + 1 + 1 + 1 := by omega); (try have q3_0_3_0 : w.heap.size + 1 + 1 + 1 < w3.heap.size := by omega); (try have q3_0_3_2 : w.heap.size + 1 + 1 + 1 < w3.heap.size + 1 + 1 := by omega); (try have q3_0_3_3 : w.heap.size + 1 + 1 + 1 < w3.heap.size + 1 + 1 + 1 := by omega); (try have q3_1_0_0 : w1.heap.size < w3.heap.size := by omega); (try have q3_1_0_2 : w1.heap.size < w3.heap.size + 1 + 1 := by omega); (try have q3_1_1_0 : w1.heap.size + 1 < w3.heap.size := by omega); (try have q3_1_1_2 : w1.heap.size + 1 < w3.heap.size + 1 + 1 := by omega); (try have q3_2_0_0 : w2.heap.size < w3.heap.size := by omega); (try have q3_2_0_2 : w2.heap.size < w3.heap.size + 1 + 1 := by omega); (try have q3_2_1_0 : w2.heap.size + 1 < w3.heap.size := by omega); (try have q3_2_1_2 : w2.heap.size + 1 < w3.heap.size + 1 + 1 := by omega); (try go_wp2_with fail)))
            have r0 : w3.cell? ⟨w.heap.size, 0, none⟩ = some (.int .i64 0) := (Below.cell (B := (w.alloc (.cells #[.int .i64 0, .int .i64 0, .int .i64 0] 27)).heap.size) (w := w.alloc (.cells #[.int .i64 0, .int .i64 0, .int .i64 0] 27)) (by repeat (first | with_reducible exact Below.refl _ _ | (with_reducible refine Below.alloc ?_ (by first | omega | (simp; done) | (simp; omega)) _) | (with_reducible refine Below.setCell ?_ (by first | omega | (simp; done) | (simp; omega)) _) | (with_reducible refine Below.drew ?_) | (with_reducible refine below_drewN ?_ _) | (with_reducible assumption) | (with_reducible refine bel_step (by with_reducible assumption) ?_ (by first | omega | (simp; done) | (simp; omega))))) (by simp)).trans (by simp)
            have r1 : w3.cell? ⟨w.heap.size, 1, none⟩ = some (.int .i64 0) := (Below.cell (B := (w.alloc (.cells #[.int .i64 0, .int .i64 0, .int .i64 0] 27)).heap.size) (w := w.alloc (.cells #[.int .i64 0, .int .i64 0, .int .i64 0] 27)) (by repeat (first | with_reducible exact Below.refl _ _ | (with_reducible refine Below.alloc ?_ (by first | omega | (simp; done) | (simp; omega)) _) | (with_reducible refine Below.setCell ?_ (by first | omega | (simp; done) | (simp; omega)) _) | (with_reducible refine Below.drew ?_) | (with_reducible refine below_drewN ?_ _) | (with_reducible assumption) | (with_reducible refine bel_step (by with_reducible assumption) ?_ (by first | omega | (simp; done) | (simp; omega))))) (by simp)).trans (by simp)
            have r2 : w3.cell? ⟨w.heap.size, 2, none⟩ = some (.int .i64 0) := (Below.cell (B := (w.alloc (.cells #[.int .i64 0, .int .i64 0, .int .i64 0] 27)).heap.size) (w := w.alloc (.cells #[.int .i64 0, .int .i64 0, .int .i64 0] 27)) (by repeat (first | with_reducible exact Below.refl _ _ | (with_reducible refine Below.alloc ?_ (by first | omega | (simp; done) | (simp; omega)) _) | (with_reducible refine Below.setCell ?_ (by first | omega | (simp; done) | (simp; omega)) _) | (with_reducible refine Below.drew ?_) | (with_reducible refine below_drewN ?_ _) | (with_reducible assumption) | (with_reducible refine bel_step (by with_reducible assumption) ?_ (by first | omega | (simp; done) | (simp; omega))))) (by simp)).trans (by simp)
            rw [HE.out]
            refine bodyPost_ret (v := (.tuple #[.agg #[.int .i64 0, .int .i64 0, .int .i64 0], .iface 71 (.int .i64 2)])) (by simp [results, Tryd.results12, go_sem, errV, okC, *]) rfl ⟨rfl, ?_⟩; exact (by repeat (first | with_reducible exact Below.refl _ _ | (with_reducible refine Below.alloc ?_ (by first | omega | (simp; done) | (simp; omega)) _) | (with_reducible refine Below.setCell ?_ (by first | omega | (simp; done) | (simp; omega)) _) | (with_reducible refine Below.drew ?_) | (with_reducible refine below_drewN ?_ _) | (with_reducible assumption) | (with_reducible refine bel_step (by with_reducible assumption) ?_ (by first | omega | (simp; done) | (simp; omega)))))
        · obtain ⟨q1, o1⟩ : ∃ q, twoB l1 = q := ⟨_, rfl⟩
          obtain ⟨q2, o2⟩ : ∃ q, twoB l2 = q := ⟨_, rfl⟩
          obtain ⟨q3, o3⟩ : ∃ q, twoB l3 = q := ⟨_, rfl⟩
          rw [o1] at HV C1 b1
          rw [o2] at HV C2
          rw [o3] at HV C3
          clear o1 o2 o3
          obtain ⟨R1, o1⟩ : ∃ q, twoR l1 = q := ⟨_, rfl⟩
          obtain ⟨R2, o2⟩ : ∃ q, twoR l2 = q := ⟨_, rfl⟩
          obtain ⟨R3, o3⟩ : ∃ q, twoR l3 = q := ⟨_, rfl⟩
          rw [o1] at C1
          rw [o2] at C2
          rw [o3] at C3
          clear o1 o2 o3
          obtain rfl : q1 = false := by simpa using b1
          have HE := Lib.hid (ParseE_no (l := L) (by rw [HV.out]; simp))
          clear b1
          have C1 := Lib.hid C1
          have C2 := Lib.hid C2
          have C3 := Lib.hid C3
          clear v1 v2 v3 HV
          go_enter Tryd.func12, Tryd.ntmps12
          go_wp2_with fail
          (try (go_at_call 44; refine (C1.out _).mono ?_; rintro e w1 ⟨rfl, hb1⟩; obtain ⟨hc1, hf1⟩ := bcell hb1; have hz1 := hb1.size; (try simp at hz1); (try have q1_0_0_0 : w.heap.size < w1.heap.size := by omega); (try have q1_0_0_2 : w.heap.size < w1.heap.size + 1 + 1 := by omega); (try have q1_0_0_3 : w.heap.size < w1.heap.size + 1 + 1 + 1 := by omega); (try have q1_0_1_0 : w.heap.size + 1 < w1.heap.size := by omega); (try have q1_0_1_2 : w.heap.size + 1 < w1.heap.size + 1 + 1 := by omega); (try have q1_0_1_3 : w.heap.size + 1 < w1.heap.size + 1 + 1 + 1 := by omega); (try have q1_0_2_0 : w.heap.size + 1 + 1 < w1.heap.size := by omega); (try have q1_0_2_2 : w.heap.size + 1 + 1 < w1.heap.size + 1 + 1 := by omega); (try have q1_0_2_3 : w.heap.size + 1 + 1 < w1.heap.size + 1 + 1 + 1 := by omega); (try have q1_0_3_0 : w.heap.size + 1 + 1 + 1 < w1.heap.size := by omega); (try have q1_0_3_2 : w.heap.size + 1 + 1 + 1 < w1.heap.size + 1 + 1 := by omega); (try have q1_0_3_3 : w.heap.size + 1 + 1 + 1 < w1.heap.size + 1 + 1 + 1 := by omega); (try go_wp2_with fail)))
          (try (go_at_call 44; refine (C2.out _).mono ?_; rintro e w2 ⟨rfl, hb2⟩; obtain ⟨hc2, hf2⟩ := bcell hb2; have hz2 := hb2.size; (try simp at hz2); (try have q2_0_0_0 : w.heap.size < w2.heap.size := by omega); (try have q2_0_0_2 : w.heap.size < w2.heap.size + 1 + 1 := by omega); (try have q2_0_0_3 : w.heap.size < w2.heap.size + 1 + 1 + 1 := by omega); (try have q2_0_1_0 : w.heap.size + 1 < w2.heap.size := by omega); (try have q2_0_1_2 : w.heap.size + 1 < w2.heap.size + 1 + 1 := by omega); (try have q2_0_1_3 : w.heap.size + 1 < w2.heap.size + 1 + 1 + 1 := by omega); (try have q2_0_2_0 : w.heap.size + 1 + 1 < w2.heap.size := by omega); (try have q2_0_2_2 : w.heap.size + 1 + 1 < w2.heap.size + 1 + 1 := by omega); (try have q2_0_2_3 : w.heap.size + 1 + 1 < w2.heap.size + 1 + 1 + 1 := by omega); (try have q2_0_3_0 : w.heap.size + 1 + 1 + 1 < w2.heap.size := by omega); (try have q2_0_3_2 : w.heap.size + 1 + 1 + 1 < w2.heap.size + 1 + 1 := by omega); (try have q2_0_3_3 : w.heap.size + 1 + 1 + 1 < w2.heap.size + 1 + 1 + 1 := by omega); (try have q2_1_0_0 : w1.heap.size < w2.heap.size := by omega); (try have q2_1_0_2 : w1.heap.size < w2.heap.size + 1 + 1 := by omega); (try have q2_1_1_0 : w1.heap.size + 1 < w2.heap.size := by omega); (try have q2_1_1_2 : w1.heap.size + 1 < w2.heap.size + 1 + 1 := by omega); (try go_wp2_with fail)))
          (try (go_at_call 44; refine (C3.out _).mono ?_; rintro e w3 ⟨rfl, hb3⟩; obtain ⟨hc3, hf3⟩ := bcell hb3; have hz3 := hb3.size; (try simp at hz3); (try have q3_0_0_0 : w.heap.size < w3.heap.size := by omega); (try have q3_0_0_2 : w.heap.size < w3.heap.size + 1 + 1 := by omega); (try have q3_0_0_3 : w.heap.size < w3.heap.size + 1 + 1 + 1 := by omega); (try have q3_0_1_0 : w.heap.size + 1 < w3.heap.size := by omega); (try have q3_0_1_2 : w.heap.size + 1 < w3.heap.size + 1 + 1 := by omega); (try have q3_0_1_3 : w.heap.size + 1 < w3.heap.size + 1 + 1 + 1 := by omega); (try have q3_0_2_0 : w.heap.size + 1 + 1 < w3.heap.size := by omega); (try have q3_0_2_2 : w.heap.size + 1 + 1 < w3.heap.size + 1 + 1 := by omega); (try have q3_0_2_3 : w.heap.size + 1 + 1 < w3.heap.size + 1 + 1 + 1 := by omega); (try have q3_0_3_0 : w.heap.size + 1 + 1 + 1 < w3.heap.size := by omega); (try have q3_0_3_2 : w.heap.size + 1 + 1 + 1 < w3.heap.size + 1 + 1 := by omega); (try have q3_0_3_3 : w.heap.size + 1 + 1 + 1 < w3.heap.size + 1 + 1 + 1 := by omega); (try have q3_1_0_0 : w1.heap.size < w3.heap.size := by omega); (try have q3_1_0_2 : w1.heap.size < w3.heap.size + 1 + 1 := by omega); (try have q3_1_1_0 : w1.heap.size + 1 < w3.heap.size := by omega); (try have q3_1_1_2 : w1.heap.size + 1 < w3.heap.size + 1 + 1 := by omega); (try have q3_2_0_0 : w2.heap.size < w3.heap.size := by omega); (try have q3_2_0_2 : w2.heap.size < w3.heap.size + 1 + 1 := by omega); (try have q3_2_1_0 : w2.heap.size + 1 < w3.heap.size := by omega); (try have q3_2_1_2 : w2.heap.size + 1 < w3.heap.size + 1 + 1 := by omega); (try go_wp2_with fail)))
          have r0 : w3.cell? ⟨w.heap.size, 0, none⟩ = some (.int .i64 0) := (Below.cell (B := (w.alloc (.cells #[.int .i64 0, .int .i64 0, .int .i64 0] 27)).heap.size) (w := w.alloc (.cells #[.int .i64 0, .int .i64 0, .int .i64 0] 27)) (by repeat (first | with_reducible exact Below.refl _ _ | (with_reducible refine Below.alloc ?_ (by first | omega | (simp; done) | (simp; omega)) _) | (with_reducible refine Below.setCell ?_ (by first | omega | (simp; done) | (simp; omega)) _) | (with_reducible refine Below.drew ?_) | (with_reducible refine below_drewN ?_ _) | (with_reducible assumption) | (with_reducible refine bel_step (by with_reducible assumption) ?_ (by first | omega | (simp; done) | (simp; omega))))) (by simp)).trans (by simp)
          have r1 : w3.cell? ⟨w.heap.size, 1, none⟩ = some (.int .i64 0) := (Below.cell (B := (w.alloc (.cells #[.int .i64 0, .int .i64 0, .int .i64 0] 27)).heap.size) (w := w.alloc (.cells #[.int .i64 0, .int .i64 0, .int .i64 0] 27)) (by repeat (first | with_reducible exact Below.refl _ _ | (with_reducible refine Below.alloc ?_ (by first | omega | (simp; done) | (simp; omega)) _) | (with_reducible refine Below.setCell ?_ (by first | omega | (simp; done) | (simp; omega)) _) | (with_reducible refine Below.drew ?_) | (with_reducible refine below_drewN ?_ _) | (with_reducible assumption) | (with_reducible refine bel_step (by with_reducible assumption) ?_ (by first | omega | (simp; done) | (simp; omega))))) (by simp)).trans (by simp)
          have r2 : w3.cell? ⟨w.heap.size, 2, none⟩ = some (.int .i64 0) := (Below.cell (B := (w.alloc (.cells #[.int .i64 0, .int .i64 0, .int .i64 0] 27)).heap.size) (w := w.alloc (.cells #[.int .i64 0, .int .i64 0, .int .i64 0] 27)) (by repeat (first | with_reducible exact Below.refl _ _ | (with_reducible refine Below.alloc ?_ (by first | omega | (simp; done) | (simp; omega)) _) | (with_reducible refine Below.setCell ?_ (by first | omega | (simp; done) | (simp; omega)) _) | (with_reducible refine Below.drew ?_) | (with_reducible refine below_drewN ?_ _) | (with_reducible assumption) | (with_reducible refine bel_step (by with_reducible assumption) ?_ (by first | omega | (simp; done) | (simp; omega))))) (by simp)).trans (by simp)
          rw [HE.out]
          refine bodyPost_ret (v := (.tuple #[.agg #[.int .i64 0, .int .i64 0, .int .i64 0], .iface 71 (.int .i64 2)])) (by simp [results, Tryd.results12, go_sem, errV, okC, *]) rfl ⟨rfl, ?_⟩; exact (by repeat (first | with_reducible exact Below.refl _ _ | (with_reducible refine Below.alloc ?_ (by first | omega | (simp; done) | (simp; omega)) _) | (with_reducible refine Below.setCell ?_ (by first | omega | (simp; done) | (simp; omega)) _) | (with_reducible refine Below.drew ?_) | (with_reducible refine below_drewN ?_ _) | (with_reducible assumption) | (with_reducible refine bel_step (by with_reducible assumption) ?_ (by first | omega | (simp; done) | (simp; omega)))))
      · have HE := Lib.hid (ParseE_no (l := s.data.toList) (by
          unfold dateOfB
          have : ¬ s.data.toList.getD 7 0 = 45 := fun h => g7 (d7.1 h)
          rw [decide_eq_false this]; simp))
        have g7 : (c7 == 45) = false := by simp; omega
        have g8 : (c7 != 45) = true := by simp_all
        subst g4
        clear hT d4 d7 e4 e7 hlen h10
        go_enter Tryd.func12, Tryd.ntmps12
        go_wp2_with fail
        rw [HE.out]
        refine bodyPost_ret (v := (.tuple #[.agg #[.int .i64 0, .int .i64 0, .int .i64 0], .iface 71 (.int .i64 2)])) (by simp [results, Tryd.results12, go_sem, errV, okC, *]) rfl ⟨rfl, ?_⟩; exact (by repeat (first | with_reducible exact Below.refl _ _ | (with_reducible refine Below.alloc ?_ (by first | omega | (simp; done) | (simp; omega)) _) | (with_reducible refine Below.setCell ?_ (by first | omega | (simp; done) | (simp; omega)) _) | (with_reducible refine Below.drew ?_) | (with_reducible refine below_drewN ?_ _) | (with_reducible assumption) | (with_reducible refine bel_step (by with_reducible assumption) ?_ (by first | omega | (simp; done) | (simp; omega)))))
    · have HE := Lib.hid (ParseE_no (l := s.data.toList) (by
        unfold dateOfB
        have : ¬ s.data.toList.getD 4 0 = 45 := fun h => g4 (d4.1 h)
        rw [decide_eq_false this]; simp))
      have g4 : (c4 == 45) = false := by simp; omega
      have g5 : (c4 != 45) = true := by simp_all
      clear hT d4 d7 e4 e7 hlen h10
      go_enter Tryd.func12, Tryd.ntmps12
      go_wp2_with fail
      rw [HE.out]
      refine bodyPost_ret (v := (.tuple #[.agg #[.int .i64 0, .int .i64 0, .int .i64 0], .iface 71 (.int .i64 2)])) (by simp [results, Tryd.results12, go_sem, errV, okC, *]) rfl ⟨rfl, ?_⟩; exact (by repeat (first | with_reducible exact Below.refl _ _ | (with_reducible refine Below.alloc ?_ (by first | omega | (simp; done) | (simp; omega)) _) | (with_reducible refine Below.setCell ?_ (by first | omega | (simp; done) | (simp; omega)) _) | (with_reducible refine Below.drew ?_) | (with_reducible refine below_drewN ?_ _) | (with_reducible assumption) | (with_reducible refine bel_step (by with_reducible assumption) ?_ (by first | omega | (simp; done) | (simp; omega)))))
  · have HE := Lib.hid (ParseE_no (l := s.data.toList) (by unfold dateOfB; rw [hlen]; simp [h10]))
    have h3 : ((s.size : Int) != 10) = true := by simp; omega
    clear hT hlen h10
    go_enter Tryd.func12, Tryd.ntmps12
    go_wp2_with fail
    rw [HE.out]
    refine bodyPost_ret (v := (.tuple #[.agg #[.int .i64 0, .int .i64 0, .int .i64 0], .iface 71 (.int .i64 2)])) (by simp [results, Tryd.results12, go_sem, errV, okC, *]) rfl ⟨rfl, ?_⟩; exact (by repeat (first | with_reducible exact Below.refl _ _ | (with_reducible refine Below.alloc ?_ (by first | omega | (simp; done) | (simp; omega)) _) | (with_reducible refine Below.setCell ?_ (by first | omega | (simp; done) | (simp; omega)) _) | (with_reducible refine Below.drew ?_) | (with_reducible refine below_drewN ?_ _) | (with_reducible assumption) | (with_reducible refine bel_step (by with_reducible assumption) ?_ (by first | omega | (simp; done) | (simp; omega)))))
end Go.Proofs.YtcigoleplhdlaaaDoor
