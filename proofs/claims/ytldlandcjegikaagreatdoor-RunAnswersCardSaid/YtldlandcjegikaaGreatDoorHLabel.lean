/- Labels of seconds: leap.clock, Tai, Print, Parse, walked. -/
import Derived.Test.YtldlandcjegikaaGreatDoorHLeap2
import Derived.Test.YtldlandcjegikaaGreatDoorHK2
namespace Go.Proofs.YtldlandcjegikaaGreatDoor
open Go.RowKit
set_option linter.unusedVariables false
set_option linter.unusedSimpArgs false
set_option maxRecDepth 100000 in
set_option maxHeartbeats 4000000 in
theorem leap_clock (x : RLabel) (w : World) (hT : TabAt w) : Calls Tryz.prog 104 #[.agg #[.int .i64 x.year, .int .i64 x.month, .int .i64 x.day, .int .i64 x.h, .int .i64 x.m, .int .i64 x.s]] w fun e w' => e = .returned (errV (okC (labB x))) ∧ Below w.heap.size w w' := by
 have C1 := fun w hT => civil_Check x.year x.month x.day w hT
 have HT := Lib.hid hT
 clear hT
 by_cases g : dateB x.year x.month x.day = true
 ·rw [g] at C1
  have C1 := Lib.hid C1
  by_cases g1 : x.h < 0 ∨ 23 < x.h ∨ x.m < 0 ∨ 59 < x.m ∨ x.s < 0 ∨ 60 < x.s
  ·rw [labB_no (.inr g1)]
   clear g
   obtain ⟨y, m, d, h, mi, s⟩ := x
   dsimp only at *
   rcases g1 with g1 | g1 | g1 | g1 | g1 | g1
   all_goals
    go_enter Tryz.func104, Tryz.ntmps104
    go_wp2_with fail
    (try (go_at_call 144; refine (C1.out _ (HT.out.below BeL)).mono ?_; rintro e w1 ⟨rfl, hb1⟩; obtain ⟨hc1, hf1⟩ := bcell hb1; have hz1 := hb1.size; (try simp at hz1); (try have := q00_ w w1); (try have := q02_ w w1); (try have := q03_ w w1); (try have := q10_ w w1); (try have := q12_ w w1); (try have := q13_ w w1); (try have := q20_ w w1); (try have := q22_ w w1); (try have := q23_ w w1); (try have := q30_ w w1); (try have := q32_ w w1); (try have := q33_ w w1); (try go_wp2_with fail)))
   all_goals
    go_ret
    exact ⟨rfl, BeL⟩
  ·have hv : labB x = true := labB_iff.2 ⟨g, by omega⟩
   rw [hv]
   clear hv g
   obtain ⟨y, m, d, h, mi, s⟩ := x
   dsimp only at *
   obtain ⟨a1, a2, a3, a4, a5, a6⟩ : 0 ≤ h ∧ h ≤ 23 ∧ 0 ≤ mi ∧ mi ≤ 59 ∧ 0 ≤ s ∧ s ≤ 60 := by omega
   clear g1
   go_enter Tryz.func104, Tryz.ntmps104
   go_wp2_with fail
   (try (go_at_call 144; refine (C1.out _ (HT.out.below BeL)).mono ?_; rintro e w1 ⟨rfl, hb1⟩; obtain ⟨hc1, hf1⟩ := bcell hb1; have hz1 := hb1.size; (try simp at hz1); (try have := q00_ w w1); (try have := q02_ w w1); (try have := q03_ w w1); (try have := q10_ w w1); (try have := q12_ w w1); (try have := q13_ w w1); (try have := q20_ w w1); (try have := q22_ w w1); (try have := q23_ w w1); (try have := q30_ w w1); (try have := q32_ w w1); (try have := q33_ w w1); (try go_wp2_with fail)))
   go_ret
   exact ⟨rfl, BeL⟩
 ·have g : dateB x.year x.month x.day = false := by simpa using g
  rw [g] at C1
  rw [labB_no (.inl g)]
  have C1 := Lib.hid C1
  clear g
  obtain ⟨y, m, d, h, mi, s⟩ := x
  dsimp only at *
  go_enter Tryz.func104, Tryz.ntmps104
  go_wp2_with fail
  (try (go_at_call 144; refine (C1.out _ (HT.out.below BeL)).mono ?_; rintro e w1 ⟨rfl, hb1⟩; obtain ⟨hc1, hf1⟩ := bcell hb1; have hz1 := hb1.size; (try simp at hz1); (try have := q00_ w w1); (try have := q02_ w w1); (try have := q03_ w w1); (try have := q10_ w w1); (try have := q12_ w w1); (try have := q13_ w w1); (try have := q20_ w w1); (try have := q22_ w w1); (try have := q23_ w w1); (try have := q30_ w w1); (try have := q32_ w w1); (try have := q33_ w w1); (try go_wp2_with fail)))
  go_ret
  exact ⟨rfl, BeL⟩
set_option maxRecDepth 100000 in
set_option maxHeartbeats 4000000 in
theorem leap_Print (x : RLabel) (w : World) (hT : TabAt w) (h : labB x = true) : Calls Tryz.prog 70 #[.agg #[.int .i64 x.year, .int .i64 x.month, .int .i64 x.day, .int .i64 x.h, .int .i64 x.m, .int .i64 x.s]] w fun e w' => e = .returned (.tuple #[.string ⟨(labT x).toArray⟩, .nilIface]) ∧ Below w.heap.size w w' := by
 have C0 := fun w hT => leap_clock x w hT
 rw [h] at C0
 have C0 := Lib.hid C0
 obtain ⟨hd, h1, h2, h3, h4, h5, h6⟩ := labB_iff.1 h
 obtain ⟨g1, g2, g3, g4, g5, g6⟩ := dateB_bd hd
 obtain ⟨y, m, d, hh, mi, s⟩ := x
 dsimp only at *
 have C1 := Lib.hid (fun w => civil_Text y m d w (by omega) (by omega) (by omega) (by omega) (by omega) (by omega))
 have C2 := Lib.hid (fun w => civil_Pad2 hh w (by omega) (by omega))
 have C3 := Lib.hid (fun w => civil_Pad2 mi w (by omega) (by omega))
 have C4 := Lib.hid (fun w => civil_Pad2 s w (by omega) (by omega))
 obtain ⟨s1, e1⟩ : ∃ s, dateT y m d = s := ⟨_, rfl⟩
 obtain ⟨s2, e2⟩ : ∃ s, pad2 hh = s := ⟨_, rfl⟩
 obtain ⟨s3, e3⟩ : ∃ s, pad2 mi = s := ⟨_, rfl⟩
 obtain ⟨s4, e4⟩ : ∃ t, pad2 s = t := ⟨_, rfl⟩
 have HV := Lib.hid (show labT ⟨y, m, d, hh, mi, s⟩ = s1 ++ (84 :: (s2 ++ (58 :: (s3 ++ (58 :: s4))))) by unfold labT; dsimp only; rw [e1, e2, e3, e4])
 rw [e1] at C1
 rw [e2] at C2
 rw [e3] at C3
 rw [e4] at C4
 have l1 : s1.length = 10 := by rw [← e1]; rfl
 have l2 : s2.length = 2 := by rw [← e2]; rfl
 have l3 : s3.length = 2 := by rw [← e3]; rfl
 have l4 : s4.length = 2 := by rw [← e4]; rfl
 have HT := Lib.hid hT
 clear e1 e2 e3 e4 hT h hd h1 h2 h3 h4 h5 h6 g1 g2 g3 g4 g5 g6
 go_enter Tryz.func70, Tryz.ntmps70
 go_wp2_with fail
 (try (go_at_call 104; refine (C0.out _ (HT.out.below BeL)).mono ?_; rintro e w5 ⟨rfl, hb5⟩; obtain ⟨hc5, hf5⟩ := bcell hb5; have hz5 := hb5.size; (try simp at hz5); (try have := q00_ w w5); (try have := q02_ w w5); (try have := q03_ w w5); (try have := q10_ w w5); (try have := q12_ w w5); (try have := q13_ w w5); (try have := q20_ w w5); (try have := q22_ w w5); (try have := q23_ w w5); (try have := q30_ w w5); (try have := q32_ w w5); (try have := q33_ w w5); (try have := q00_ w1 w5); (try have := q02_ w1 w5); (try have := q10_ w1 w5); (try have := q12_ w1 w5); (try have := q00_ w2 w5); (try have := q02_ w2 w5); (try have := q10_ w2 w5); (try have := q12_ w2 w5); (try have := q00_ w3 w5); (try have := q02_ w3 w5); (try have := q10_ w3 w5); (try have := q12_ w3 w5); (try have := q00_ w4 w5); (try have := q02_ w4 w5); (try have := q10_ w4 w5); (try have := q12_ w4 w5); (try go_wp2_with fail)))
 have K5 : Blk w5 w.heap.size 82 #[.int .i64 y, .int .i64 m, .int .i64 d, .int .i64 hh, .int .i64 mi, .int .i64 s] := (Blk.new w _ _).below hb5 (by simp)
 have k0 := K5.cell 0
 have k1 := K5.cell 1
 have k2 := K5.cell 2
 have k3 := K5.cell 3
 have k4 := K5.cell 4
 have k5 := K5.cell 5
 have kl := K5.lt
 have HB5 := Lib.hid hb5
 simp at k0 k1 k2 k3 k4 k5
 clear K5 hc5 hf5 hb5
 go_region_held3 (fun w' => w'.cell? ⟨w.heap.size, 0, none⟩ = some (.int .i64 y) ∧ w'.cell? ⟨w.heap.size, 1, none⟩ = some (.int .i64 m) ∧ w'.cell? ⟨w.heap.size, 2, none⟩ = some (.int .i64 d) ∧ w'.cell? ⟨w.heap.size, 3, none⟩ = some (.int .i64 hh) ∧ w'.cell? ⟨w.heap.size, 4, none⟩ = some (.int .i64 mi) ∧ w'.cell? ⟨w.heap.size, 5, none⟩ = some (.int .i64 s)) (((repeat' apply And.intro) <;> exact (Below.cell (B := (w5).heap.size) (w := w5) BeL oSo).trans (by assumption)))
  (first | (go_at_call 105; (with_reducible refine (C1.out _).mono ?_); rintro e w1 ⟨rfl, hb1⟩; obtain ⟨hc1, hf1⟩ := bcell hb1; have hz1 := hb1.size; (try simp at hz1); (try have := q00_ w w1); (try have := q02_ w w1); (try have := q03_ w w1); (try have := q10_ w w1); (try have := q12_ w w1); (try have := q13_ w w1); (try have := q20_ w w1); (try have := q22_ w w1); (try have := q23_ w w1); (try have := q30_ w w1); (try have := q32_ w w1); (try have := q33_ w w1)) | (go_at_call 106; (with_reducible refine (C2.out _).mono ?_); rintro e w2 ⟨rfl, hb2⟩; obtain ⟨hc2, hf2⟩ := bcell hb2; have hz2 := hb2.size; (try simp at hz2); (try have := q00_ w w2); (try have := q02_ w w2); (try have := q03_ w w2); (try have := q10_ w w2); (try have := q12_ w w2); (try have := q13_ w w2); (try have := q20_ w w2); (try have := q22_ w w2); (try have := q23_ w w2); (try have := q30_ w w2); (try have := q32_ w w2); (try have := q33_ w w2); (try have := q00_ w1 w2); (try have := q02_ w1 w2); (try have := q10_ w1 w2); (try have := q12_ w1 w2)) | (go_at_call 106; (with_reducible refine (C3.out _).mono ?_); rintro e w3 ⟨rfl, hb3⟩; obtain ⟨hc3, hf3⟩ := bcell hb3; have hz3 := hb3.size; (try simp at hz3); (try have := q00_ w w3); (try have := q02_ w w3); (try have := q03_ w w3); (try have := q10_ w w3); (try have := q12_ w w3); (try have := q13_ w w3); (try have := q20_ w w3); (try have := q22_ w w3); (try have := q23_ w w3); (try have := q30_ w w3); (try have := q32_ w w3); (try have := q33_ w w3); (try have := q00_ w1 w3); (try have := q02_ w1 w3); (try have := q10_ w1 w3); (try have := q12_ w1 w3); (try have := q00_ w2 w3); (try have := q02_ w2 w3); (try have := q10_ w2 w3); (try have := q12_ w2 w3)) | (go_at_call 106; (with_reducible refine (C4.out _).mono ?_); rintro e w4 ⟨rfl, hb4⟩; obtain ⟨hc4, hf4⟩ := bcell hb4; have hz4 := hb4.size; (try simp at hz4); (try have := q00_ w w4); (try have := q02_ w w4); (try have := q03_ w w4); (try have := q10_ w w4); (try have := q12_ w w4); (try have := q13_ w w4); (try have := q20_ w w4); (try have := q22_ w w4); (try have := q23_ w w4); (try have := q30_ w w4); (try have := q32_ w w4); (try have := q33_ w w4); (try have := q00_ w1 w4); (try have := q02_ w1 w4); (try have := q10_ w1 w4); (try have := q12_ w1 w4); (try have := q00_ w2 w4); (try have := q02_ w2 w4); (try have := q10_ w2 w4); (try have := q12_ w2 w4); (try have := q00_ w3 w4); (try have := q02_ w3 w4); (try have := q10_ w3 w4); (try have := q12_ w3 w4)))
 all_goals
  go_wp2_with fail
  go_ret2
  exact ⟨ret_v (by rw [HV.out]; exact congrArg (fun s => Value.tuple #[Value.string s, Value.nilIface]) (ByteArray.ext (by simp [ByteArray.data_append]))), by have hB := HB5.out; exact BeL⟩
end Go.Proofs.YtldlandcjegikaaGreatDoor
