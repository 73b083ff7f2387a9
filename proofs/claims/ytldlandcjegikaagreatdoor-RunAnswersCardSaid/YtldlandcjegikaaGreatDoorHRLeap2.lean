/- The reference's leaps and labels, walked. -/
import Derived.Test.YtldlandcjegikaaGreatDoorHS8
import Derived.Deep.DeepCutAuto
namespace Go.Proofs.YtldlandcjegikaaGreatDoor
open Go.RowKit
set_option linter.unusedVariables false
set_option linter.unusedSimpArgs false
set_option maxRecDepth 100000 in
set_option maxHeartbeats 4000000 in
theorem r_LabelText (x : RLabel) (w : World) (h : labB x = true) : Calls Tryz.prog 27 #[.agg #[.int .i64 x.year, .int .i64 x.month, .int .i64 x.day, .int .i64 x.h, .int .i64 x.m, .int .i64 x.s]] w fun e w' => e = .returned (.string ⟨(labT x).toArray⟩) ∧ Below w.heap.size w w' := by
 obtain ⟨hd, h1, h2, h3, h4, h5, h6⟩ := labB_iff.1 h
 obtain ⟨g1, g2, g3, g4, g5, g6⟩ := dateB_bd hd
 obtain ⟨y, m, d, hh, mi, s⟩ := x
 dsimp only at *
 have C1 := Lib.hid (fun w => r_DateText y m d w (by omega) (by omega) (by omega) (by omega) (by omega) (by omega))
 have C2 := Lib.hid (fun w => r_Pad2 hh w (by omega) (by omega))
 have C3 := Lib.hid (fun w => r_Pad2 mi w (by omega) (by omega))
 have C4 := Lib.hid (fun w => r_Pad2 s w (by omega) (by omega))
 obtain ⟨s1, e1⟩ : ∃ s, dateT y m d = s := ⟨_, rfl⟩
 obtain ⟨s2, e2⟩ : ∃ s, pad2 hh = s := ⟨_, rfl⟩
 obtain ⟨s3, e3⟩ : ∃ s, pad2 mi = s := ⟨_, rfl⟩
 obtain ⟨s4, e4⟩ : ∃ t, pad2 s = t := ⟨_, rfl⟩
 have HV := Lib.hid (show labT ⟨y, m, d, hh, mi, s⟩ = s1 ++ (84 :: (s2 ++ (58 :: (s3 ++ (58 :: s4))))) by unfold labT; dsimp only; rw [e1, e2, e3, e4])
 rw [e1] at C1
 rw [e2] at C2
 rw [e3] at C3
 rw [e4] at C4
 have l1 : s1.length = 10 := by rw [← e1]; rfl
 have l2 : s2.length = 2 := by rw [← e2]; rfl
 have l3 : s3.length = 2 := by rw [← e3]; rfl
 have l4 : s4.length = 2 := by rw [← e4]; rfl
 clear e1 e2 e3 e4 h hd h1 h2 h3 h4 h5 h6 g1 g2 g3 g4 g5 g6
 go_enter Tryz.func27, Tryz.ntmps27
 go_wp2_with fail
 (try (go_at_call 49; refine (C1.out _).mono ?_; rintro e w1 ⟨rfl, hb1⟩; obtain ⟨hc1, hf1⟩ := bcell hb1; have hz1 := hb1.size; (try simp at hz1); (try have := q00_ w w1); (try have := q02_ w w1); (try have := q03_ w w1); (try have := q10_ w w1); (try have := q12_ w w1); (try have := q13_ w w1); (try have := q20_ w w1); (try have := q22_ w w1); (try have := q23_ w w1); (try have := q30_ w w1); (try have := q32_ w w1); (try have := q33_ w w1); (try go_wp2_with fail)))
 (try (go_at_call 50; refine (C2.out _).mono ?_; rintro e w2 ⟨rfl, hb2⟩; obtain ⟨hc2, hf2⟩ := bcell hb2; have hz2 := hb2.size; (try simp at hz2); (try have := q00_ w w2); (try have := q02_ w w2); (try have := q03_ w w2); (try have := q10_ w w2); (try have := q12_ w w2); (try have := q13_ w w2); (try have := q20_ w w2); (try have := q22_ w w2); (try have := q23_ w w2); (try have := q30_ w w2); (try have := q32_ w w2); (try have := q33_ w w2); (try have := q00_ w1 w2); (try have := q02_ w1 w2); (try have := q10_ w1 w2); (try have := q12_ w1 w2); (try go_wp2_with fail)))
 (try (go_at_call 50; refine (C3.out _).mono ?_; rintro e w3 ⟨rfl, hb3⟩; obtain ⟨hc3, hf3⟩ := bcell hb3; have hz3 := hb3.size; (try simp at hz3); (try have := q00_ w w3); (try have := q02_ w w3); (try have := q03_ w w3); (try have := q10_ w w3); (try have := q12_ w w3); (try have := q13_ w w3); (try have := q20_ w w3); (try have := q22_ w w3); (try have := q23_ w w3); (try have := q30_ w w3); (try have := q32_ w w3); (try have := q33_ w w3); (try have := q00_ w1 w3); (try have := q02_ w1 w3); (try have := q10_ w1 w3); (try have := q12_ w1 w3); (try have := q00_ w2 w3); (try have := q02_ w2 w3); (try have := q10_ w2 w3); (try have := q12_ w2 w3); (try go_wp2_with fail)))
 (try (go_at_call 50; refine (C4.out _).mono ?_; rintro e w4 ⟨rfl, hb4⟩; obtain ⟨hc4, hf4⟩ := bcell hb4; have hz4 := hb4.size; (try simp at hz4); (try have := q00_ w w4); (try have := q02_ w w4); (try have := q03_ w w4); (try have := q10_ w w4); (try have := q12_ w w4); (try have := q13_ w w4); (try have := q20_ w w4); (try have := q22_ w w4); (try have := q23_ w w4); (try have := q30_ w w4); (try have := q32_ w w4); (try have := q33_ w w4); (try have := q00_ w1 w4); (try have := q02_ w1 w4); (try have := q10_ w1 w4); (try have := q12_ w1 w4); (try have := q00_ w2 w4); (try have := q02_ w2 w4); (try have := q10_ w2 w4); (try have := q12_ w2 w4); (try have := q00_ w3 w4); (try have := q02_ w3 w4); (try have := q10_ w3 w4); (try have := q12_ w3 w4); (try go_wp2_with fail)))
 go_ret
 exact ⟨ret_v (by rw [HV.out]; exact congrArg Value.string (ByteArray.ext (by simp [ByteArray.data_append]))), BeL⟩
end Go.Proofs.YtldlandcjegikaaGreatDoor
