/- Labels of seconds: leap.Parse of any text, walked. -/
import Derived.Test.YtcigoleplhdlaaaDoorLabel2
import Derived.Test.YtcigoleplhdlaaaDoorLabel3
namespace Go.Proofs.YtcigoleplhdlaaaDoor
open Go.RowKit
set_option linter.unusedVariables false
set_option linter.unusedSimpArgs false
set_option maxRecDepth 100000 in
theorem leap_Parse_len (s : ByteArray) (w : World) (hs : s.size ≠ 19) (hE : LabE s.data.toList = .returned (.tuple #[.agg #[.int .i64 0, .int .i64 0, .int .i64 0, .int .i64 0, .int .i64 0, .int .i64 0], .iface 71 (.int .i64 2)])) :
    Calls Tryd.prog 17 #[.string s] w fun e w' => e = LabE s.data.toList ∧ Below w.heap.size w w' := by
  have h3 : ((s.size : Int) != 19) = true := by simp; omega
  have HE := Lib.hid hE
  clear hs hE
  go_enter Tryd.func17, Tryd.ntmps17
  go_wp2_with fail
  rw [HE.out]
  refine bodyPost_ret (v := (.tuple #[.agg #[.int .i64 0, .int .i64 0, .int .i64 0, .int .i64 0, .int .i64 0, .int .i64 0], .iface 71 (.int .i64 2)])) (by simp [results, Tryd.results17, go_sem, errV, okC, *]) rfl ⟨rfl, ?_⟩; exact (by repeat (first | with_reducible exact Below.refl _ _ | (with_reducible refine Below.alloc ?_ (by first | omega | (simp; done) | (simp; omega)) _) | (with_reducible refine Below.setCell ?_ (by first | omega | (simp; done) | (simp; omega)) _) | (with_reducible refine Below.drew ?_) | (with_reducible refine below_drewN ?_ _) | (with_reducible assumption) | (with_reducible refine bel_step (by with_reducible assumption) ?_ (by first | omega | (simp; done) | (simp; omega)))))
set_option maxRecDepth 100000 in
theorem leap_Parse_sep1 (s : ByteArray) (w : World) (hs : s.size = 19) (c : Int) (hc : (c != 45) = true) (x4 : ∀ w, (Instr.index 9 (.string s) (.int .i64 4)).run Tryd.prog w = .ok (.int .u8 c) w) (hE : LabE s.data.toList = .returned (.tuple #[.agg #[.int .i64 0, .int .i64 0, .int .i64 0, .int .i64 0, .int .i64 0, .int .i64 0], .iface 71 (.int .i64 2)])) :
    Calls Tryd.prog 17 #[.string s] w fun e w' => e = LabE s.data.toList ∧ Below w.heap.size w w' := by
  have h3 : ((s.size : Int) != 19) = false := by simp; omega
  have HE := Lib.hid hE
  clear hs hE
  go_enter Tryd.func17, Tryd.ntmps17
  go_wp2_with fail
  rw [HE.out]
  refine bodyPost_ret (v := (.tuple #[.agg #[.int .i64 0, .int .i64 0, .int .i64 0, .int .i64 0, .int .i64 0, .int .i64 0], .iface 71 (.int .i64 2)])) (by simp [results, Tryd.results17, go_sem, errV, okC, *]) rfl ⟨rfl, ?_⟩; exact (by repeat (first | with_reducible exact Below.refl _ _ | (with_reducible refine Below.alloc ?_ (by first | omega | (simp; done) | (simp; omega)) _) | (with_reducible refine Below.setCell ?_ (by first | omega | (simp; done) | (simp; omega)) _) | (with_reducible refine Below.drew ?_) | (with_reducible refine below_drewN ?_ _) | (with_reducible assumption) | (with_reducible refine bel_step (by with_reducible assumption) ?_ (by first | omega | (simp; done) | (simp; omega)))))
set_option maxRecDepth 100000 in
theorem leap_Parse_sep2 (s : ByteArray) (w : World) (hs : s.size = 19) (c : Int) (hc : (c != 45) = true) (x4 : ∀ w, (Instr.index 9 (.string s) (.int .i64 4)).run Tryd.prog w = .ok (.int .u8 45) w) (x7 : ∀ w, (Instr.index 9 (.string s) (.int .i64 7)).run Tryd.prog w = .ok (.int .u8 c) w) (hE : LabE s.data.toList = .returned (.tuple #[.agg #[.int .i64 0, .int .i64 0, .int .i64 0, .int .i64 0, .int .i64 0, .int .i64 0], .iface 71 (.int .i64 2)])) :
    Calls Tryd.prog 17 #[.string s] w fun e w' => e = LabE s.data.toList ∧ Below w.heap.size w w' := by
  have h3 : ((s.size : Int) != 19) = false := by simp; omega
  have HE := Lib.hid hE
  clear hs hE
  go_enter Tryd.func17, Tryd.ntmps17
  go_wp2_with fail
  rw [HE.out]
  refine bodyPost_ret (v := (.tuple #[.agg #[.int .i64 0, .int .i64 0, .int .i64 0, .int .i64 0, .int .i64 0, .int .i64 0], .iface 71 (.int .i64 2)])) (by simp [results, Tryd.results17, go_sem, errV, okC, *]) rfl ⟨rfl, ?_⟩; exact (by repeat (first | with_reducible exact Below.refl _ _ | (with_reducible refine Below.alloc ?_ (by first | omega | (simp; done) | (simp; omega)) _) | (with_reducible refine Below.setCell ?_ (by first | omega | (simp; done) | (simp; omega)) _) | (with_reducible refine Below.drew ?_) | (with_reducible refine below_drewN ?_ _) | (with_reducible assumption) | (with_reducible refine bel_step (by with_reducible assumption) ?_ (by first | omega | (simp; done) | (simp; omega)))))
set_option maxRecDepth 100000 in
theorem leap_Parse_sep3 (s : ByteArray) (w : World) (hs : s.size = 19) (c : Int) (hc : (c != 84) = true) (x4 : ∀ w, (Instr.index 9 (.string s) (.int .i64 4)).run Tryd.prog w = .ok (.int .u8 45) w) (x7 : ∀ w, (Instr.index 9 (.string s) (.int .i64 7)).run Tryd.prog w = .ok (.int .u8 45) w) (x10 : ∀ w, (Instr.index 9 (.string s) (.int .i64 10)).run Tryd.prog w = .ok (.int .u8 c) w) (hE : LabE s.data.toList = .returned (.tuple #[.agg #[.int .i64 0, .int .i64 0, .int .i64 0, .int .i64 0, .int .i64 0, .int .i64 0], .iface 71 (.int .i64 2)])) :
    Calls Tryd.prog 17 #[.string s] w fun e w' => e = LabE s.data.toList ∧ Below w.heap.size w w' := by
  have h3 : ((s.size : Int) != 19) = false := by simp; omega
  have HE := Lib.hid hE
  clear hs hE
  go_enter Tryd.func17, Tryd.ntmps17
  go_wp2_with fail
  rw [HE.out]
  refine bodyPost_ret (v := (.tuple #[.agg #[.int .i64 0, .int .i64 0, .int .i64 0, .int .i64 0, .int .i64 0, .int .i64 0], .iface 71 (.int .i64 2)])) (by simp [results, Tryd.results17, go_sem, errV, okC, *]) rfl ⟨rfl, ?_⟩; exact (by repeat (first | with_reducible exact Below.refl _ _ | (with_reducible refine Below.alloc ?_ (by first | omega | (simp; done) | (simp; omega)) _) | (with_reducible refine Below.setCell ?_ (by first | omega | (simp; done) | (simp; omega)) _) | (with_reducible refine Below.drew ?_) | (with_reducible refine below_drewN ?_ _) | (with_reducible assumption) | (with_reducible refine bel_step (by with_reducible assumption) ?_ (by first | omega | (simp; done) | (simp; omega)))))
set_option maxRecDepth 100000 in
theorem leap_Parse_sep4 (s : ByteArray) (w : World) (hs : s.size = 19) (c : Int) (hc : (c != 58) = true) (x4 : ∀ w, (Instr.index 9 (.string s) (.int .i64 4)).run Tryd.prog w = .ok (.int .u8 45) w) (x7 : ∀ w, (Instr.index 9 (.string s) (.int .i64 7)).run Tryd.prog w = .ok (.int .u8 45) w) (x10 : ∀ w, (Instr.index 9 (.string s) (.int .i64 10)).run Tryd.prog w = .ok (.int .u8 84) w) (x13 : ∀ w, (Instr.index 9 (.string s) (.int .i64 13)).run Tryd.prog w = .ok (.int .u8 c) w) (hE : LabE s.data.toList = .returned (.tuple #[.agg #[.int .i64 0, .int .i64 0, .int .i64 0, .int .i64 0, .int .i64 0, .int .i64 0], .iface 71 (.int .i64 2)])) :
    Calls Tryd.prog 17 #[.string s] w fun e w' => e = LabE s.data.toList ∧ Below w.heap.size w w' := by
  have h3 : ((s.size : Int) != 19) = false := by simp; omega
  have HE := Lib.hid hE
  clear hs hE
  go_enter Tryd.func17, Tryd.ntmps17
  go_wp2_with fail
  rw [HE.out]
  refine bodyPost_ret (v := (.tuple #[.agg #[.int .i64 0, .int .i64 0, .int .i64 0, .int .i64 0, .int .i64 0, .int .i64 0], .iface 71 (.int .i64 2)])) (by simp [results, Tryd.results17, go_sem, errV, okC, *]) rfl ⟨rfl, ?_⟩; exact (by repeat (first | with_reducible exact Below.refl _ _ | (with_reducible refine Below.alloc ?_ (by first | omega | (simp; done) | (simp; omega)) _) | (with_reducible refine Below.setCell ?_ (by first | omega | (simp; done) | (simp; omega)) _) | (with_reducible refine Below.drew ?_) | (with_reducible refine below_drewN ?_ _) | (with_reducible assumption) | (with_reducible refine bel_step (by with_reducible assumption) ?_ (by first | omega | (simp; done) | (simp; omega)))))
set_option maxRecDepth 100000 in
theorem leap_Parse_sep5 (s : ByteArray) (w : World) (hs : s.size = 19) (c : Int) (hc : (c != 58) = true) (x4 : ∀ w, (Instr.index 9 (.string s) (.int .i64 4)).run Tryd.prog w = .ok (.int .u8 45) w) (x7 : ∀ w, (Instr.index 9 (.string s) (.int .i64 7)).run Tryd.prog w = .ok (.int .u8 45) w) (x10 : ∀ w, (Instr.index 9 (.string s) (.int .i64 10)).run Tryd.prog w = .ok (.int .u8 84) w) (x13 : ∀ w, (Instr.index 9 (.string s) (.int .i64 13)).run Tryd.prog w = .ok (.int .u8 58) w) (x16 : ∀ w, (Instr.index 9 (.string s) (.int .i64 16)).run Tryd.prog w = .ok (.int .u8 c) w) (hE : LabE s.data.toList = .returned (.tuple #[.agg #[.int .i64 0, .int .i64 0, .int .i64 0, .int .i64 0, .int .i64 0, .int .i64 0], .iface 71 (.int .i64 2)])) :
    Calls Tryd.prog 17 #[.string s] w fun e w' => e = LabE s.data.toList ∧ Below w.heap.size w w' := by
  have h3 : ((s.size : Int) != 19) = false := by simp; omega
  have HE := Lib.hid hE
  clear hs hE
  go_enter Tryd.func17, Tryd.ntmps17
  go_wp2_with fail
  rw [HE.out]
  refine bodyPost_ret (v := (.tuple #[.agg #[.int .i64 0, .int .i64 0, .int .i64 0, .int .i64 0, .int .i64 0, .int .i64 0], .iface 71 (.int .i64 2)])) (by simp [results, Tryd.results17, go_sem, errV, okC, *]) rfl ⟨rfl, ?_⟩; exact (by repeat (first | with_reducible exact Below.refl _ _ | (with_reducible refine Below.alloc ?_ (by first | omega | (simp; done) | (simp; omega)) _) | (with_reducible refine Below.setCell ?_ (by first | omega | (simp; done) | (simp; omega)) _) | (with_reducible refine Below.drew ?_) | (with_reducible refine below_drewN ?_ _) | (with_reducible assumption) | (with_reducible refine bel_step (by with_reducible assumption) ?_ (by first | omega | (simp; done) | (simp; omega)))))
theorem leap_Parse (s : ByteArray) (w : World) (hT : TabAt w) :
    Calls Tryd.prog 17 #[.string s] w fun e w' => e = LabE s.data.toList ∧ Below w.heap.size w w' := by
  have hlen : s.data.toList.length = s.size := rfl
  by_cases h19 : s.size = 19
  rotate_left 1
  · exact leap_Parse_len s w h19 (LabE_no (by unfold labOfB; rw [hlen]; simp [h19]))
  have x4 := fun w => idx_s s 4 (by omega) 4 rfl w
  have d4 := chr_iff (s.data.toList.getD 4 0) 45 (by omega)
  obtain ⟨c4, e4⟩ : ∃ c : Int, ((s.data.toList.getD 4 0).toNat : Int) = c := ⟨_, rfl⟩
  simp only [e4] at x4
  rw [e4] at d4
  have x7 := fun w => idx_s s 7 (by omega) 7 rfl w
  have d7 := chr_iff (s.data.toList.getD 7 0) 45 (by omega)
  obtain ⟨c7, e7⟩ : ∃ c : Int, ((s.data.toList.getD 7 0).toNat : Int) = c := ⟨_, rfl⟩
  simp only [e7] at x7
  rw [e7] at d7
  have x10 := fun w => idx_s s 10 (by omega) 10 rfl w
  have d10 := chr_iff (s.data.toList.getD 10 0) 84 (by omega)
  obtain ⟨c10, e10⟩ : ∃ c : Int, ((s.data.toList.getD 10 0).toNat : Int) = c := ⟨_, rfl⟩
  simp only [e10] at x10
  rw [e10] at d10
  have x13 := fun w => idx_s s 13 (by omega) 13 rfl w
  have d13 := chr_iff (s.data.toList.getD 13 0) 58 (by omega)
  obtain ⟨c13, e13⟩ : ∃ c : Int, ((s.data.toList.getD 13 0).toNat : Int) = c := ⟨_, rfl⟩
  simp only [e13] at x13
  rw [e13] at d13
  have x16 := fun w => idx_s s 16 (by omega) 16 rfl w
  have d16 := chr_iff (s.data.toList.getD 16 0) 58 (by omega)
  obtain ⟨c16, e16⟩ : ∃ c : Int, ((s.data.toList.getD 16 0).toNat : Int) = c := ⟨_, rfl⟩
  simp only [e16] at x16
  rw [e16] at d16
  by_cases g4 : c4 = ((45 : Nat) : Int)
  rotate_left 1
  · have hn : ¬ s.data.toList.getD 4 0 = 45 := fun h => g4 (d4.1 h)
    exact leap_Parse_sep1 s w h19 c4 (by simpa using g4) x4 (LabE_no (by unfold labOfB; rw [decide_eq_false hn]; simp))
  by_cases g7 : c7 = ((45 : Nat) : Int)
  rotate_left 1
  · have hn : ¬ s.data.toList.getD 7 0 = 45 := fun h => g7 (d7.1 h)
    exact leap_Parse_sep2 s w h19 c7 (by simpa using g7) (by simpa [g4] using x4) x7 (LabE_no (by unfold labOfB; rw [decide_eq_false hn]; simp))
  by_cases g10 : c10 = ((84 : Nat) : Int)
  rotate_left 1
  · have hn : ¬ s.data.toList.getD 10 0 = 84 := fun h => g10 (d10.1 h)
    exact leap_Parse_sep3 s w h19 c10 (by simpa using g10) (by simpa [g4] using x4) (by simpa [g7] using x7) x10 (LabE_no (by unfold labOfB; rw [decide_eq_false hn]; simp))
  by_cases g13 : c13 = ((58 : Nat) : Int)
  rotate_left 1
  · have hn : ¬ s.data.toList.getD 13 0 = 58 := fun h => g13 (d13.1 h)
    exact leap_Parse_sep4 s w h19 c13 (by simpa using g13) (by simpa [g4] using x4) (by simpa [g7] using x7) (by simpa [g10] using x10) x13 (LabE_no (by unfold labOfB; rw [decide_eq_false hn]; simp))
  by_cases g16 : c16 = ((58 : Nat) : Int)
  rotate_left 1
  · have hn : ¬ s.data.toList.getD 16 0 = 58 := fun h => g16 (d16.1 h)
    exact leap_Parse_sep5 s w h19 c16 (by simpa using g16) (by simpa [g4] using x4) (by simpa [g7] using x7) (by simpa [g10] using x10) (by simpa [g13] using x13) x16 (LabE_no (by unfold labOfB; rw [decide_eq_false hn]; simp))
  have x4 : ∀ w, (Instr.index 9 (.string s) (.int .i64 4)).run Tryd.prog w = .ok (.int .u8 45) w := by simpa [g4] using x4
  have o4 : s.data.toList.getD 4 0 = 45 := d4.2 g4
  have x7 : ∀ w, (Instr.index 9 (.string s) (.int .i64 7)).run Tryd.prog w = .ok (.int .u8 45) w := by simpa [g7] using x7
  have o7 : s.data.toList.getD 7 0 = 45 := d7.2 g7
  have x10 : ∀ w, (Instr.index 9 (.string s) (.int .i64 10)).run Tryd.prog w = .ok (.int .u8 84) w := by simpa [g10] using x10
  have o10 : s.data.toList.getD 10 0 = 84 := d10.2 g10
  have x13 : ∀ w, (Instr.index 9 (.string s) (.int .i64 13)).run Tryd.prog w = .ok (.int .u8 58) w := by simpa [g13] using x13
  have o13 : s.data.toList.getD 13 0 = 58 := d13.2 g13
  have x16 : ∀ w, (Instr.index 9 (.string s) (.int .i64 16)).run Tryd.prog w = .ok (.int .u8 58) w := by simpa [g16] using x16
  have o16 : s.data.toList.getD 16 0 = 58 := d16.2 g16
  have C1 := fun w => civil_Two (s.extract 0 4) w (by simp; omega)
  rw [sub_bytes] at C1
  have C2 := fun w => civil_Two (s.extract 5 7) w (by simp; omega)
  rw [sub_bytes] at C2
  have C3 := fun w => civil_Two (s.extract 8 10) w (by simp; omega)
  rw [sub_bytes] at C3
  have C4 := fun w => civil_Two (s.extract 11 13) w (by simp; omega)
  rw [sub_bytes] at C4
  have C5 := fun w => civil_Two (s.extract 14 16) w (by simp; omega)
  rw [sub_bytes] at C5
  have C6 := fun w => civil_Two (s.extract 17 s.size) w (by simp; omega)
  rw [sub_bytes] at C6
  have HV : labOfB s.data.toList = (twoB ((s.data.toList.drop 0).take (4 - 0)) && (twoB ((s.data.toList.drop 5).take (7 - 5)) && (twoB ((s.data.toList.drop 8).take (10 - 8)) && (twoB ((s.data.toList.drop 11).take (13 - 11)) && (twoB ((s.data.toList.drop 14).take (16 - 14)) && twoB ((s.data.toList.drop 17).take (s.size - 17))))))) := by
    unfold labOfB
    rw [hlen, decide_eq_true o4, decide_eq_true o7, decide_eq_true o10, decide_eq_true o13, decide_eq_true o16, h19]; rfl
  have HP : parL s.data.toList = ⟨twoV ((s.data.toList.drop 0).take (4 - 0)), twoV ((s.data.toList.drop 5).take (7 - 5)), twoV ((s.data.toList.drop 8).take (10 - 8)), twoV ((s.data.toList.drop 11).take (13 - 11)), twoV ((s.data.toList.drop 14).take (16 - 14)), twoV ((s.data.toList.drop 17).take (s.size - 17))⟩ := by rw [h19]; rfl
  obtain ⟨l1, f1⟩ : ∃ l, (s.data.toList.drop 0).take (4 - 0) = l := ⟨_, rfl⟩
  rw [f1] at C1 HV HP
  obtain ⟨l2, f2⟩ : ∃ l, (s.data.toList.drop 5).take (7 - 5) = l := ⟨_, rfl⟩
  rw [f2] at C2 HV HP
  obtain ⟨l3, f3⟩ : ∃ l, (s.data.toList.drop 8).take (10 - 8) = l := ⟨_, rfl⟩
  rw [f3] at C3 HV HP
  obtain ⟨l4, f4⟩ : ∃ l, (s.data.toList.drop 11).take (13 - 11) = l := ⟨_, rfl⟩
  rw [f4] at C4 HV HP
  obtain ⟨l5, f5⟩ : ∃ l, (s.data.toList.drop 14).take (16 - 14) = l := ⟨_, rfl⟩
  rw [f5] at C5 HV HP
  obtain ⟨l6, f6⟩ : ∃ l, (s.data.toList.drop 17).take (s.size - 17) = l := ⟨_, rfl⟩
  rw [f6] at C6 HV HP
  clear f1 f2 f3 f4 f5 f6
  by_cases b1 : twoB l1 = true
  rotate_left 1
  · have b1 : twoB l1 = false := by simpa using b1
    rw [b1] at C1
    exact leap_Parse_no1 s w hT h19 _ x4 x7 x10 x13 x16 _ C1 (LabE_no (by rw [HV, b1]; simp))
  have r1 : twoR l1 = twoV l1 := by unfold twoR; rw [b1, if_pos rfl]
  rw [b1, r1] at C1
  by_cases b2 : twoB l2 = true
  rotate_left 1
  · have b2 : twoB l2 = false := by simpa using b2
    rw [b2] at C2
    exact leap_Parse_no2 s w hT h19 _ x4 x7 x10 x13 x16 _ _ C1 C2 (LabE_no (by rw [HV, b1, b2]; simp))
  have r2 : twoR l2 = twoV l2 := by unfold twoR; rw [b2, if_pos rfl]
  rw [b2, r2] at C2
  by_cases b3 : twoB l3 = true
  rotate_left 1
  · have b3 : twoB l3 = false := by simpa using b3
    rw [b3] at C3
    exact leap_Parse_no3 s w hT h19 _ x4 x7 x10 x13 x16 _ _ _ C1 C2 C3 (LabE_no (by rw [HV, b1, b2, b3]; simp))
  have r3 : twoR l3 = twoV l3 := by unfold twoR; rw [b3, if_pos rfl]
  rw [b3, r3] at C3
  by_cases b4 : twoB l4 = true
  rotate_left 1
  · have b4 : twoB l4 = false := by simpa using b4
    rw [b4] at C4
    exact leap_Parse_no4 s w hT h19 _ x4 x7 x10 x13 x16 _ _ _ _ C1 C2 C3 C4 (LabE_no (by rw [HV, b1, b2, b3, b4]; simp))
  have r4 : twoR l4 = twoV l4 := by unfold twoR; rw [b4, if_pos rfl]
  rw [b4, r4] at C4
  by_cases b5 : twoB l5 = true
  rotate_left 1
  · have b5 : twoB l5 = false := by simpa using b5
    rw [b5] at C5
    exact leap_Parse_no5 s w hT h19 _ x4 x7 x10 x13 x16 _ _ _ _ _ C1 C2 C3 C4 C5 (LabE_no (by rw [HV, b1, b2, b3, b4, b5]; simp))
  have r5 : twoR l5 = twoV l5 := by unfold twoR; rw [b5, if_pos rfl]
  rw [b5, r5] at C5
  by_cases b6 : twoB l6 = true
  rotate_left 1
  · have b6 : twoB l6 = false := by simpa using b6
    rw [b6] at C6
    exact leap_Parse_no6 s w hT h19 _ x4 x7 x10 x13 x16 _ _ _ _ _ _ C1 C2 C3 C4 C5 C6 (LabE_no (by rw [HV, b1, b2, b3, b4, b5, b6]; simp))
  have r6 : twoR l6 = twoV l6 := by unfold twoR; rw [b6, if_pos rfl]
  rw [b6, r6] at C6
  have HO : labOfB s.data.toList = true := by rw [HV, b1, b2, b3, b4, b5, b6]; rfl
  have HC : labC s.data.toList = okC (labB (parL s.data.toList)) := by unfold labC; rw [if_pos HO]
  rw [HP] at HC
  have C7 := fun w hT => leap_clock ⟨twoV l1, twoV l2, twoV l3, twoV l4, twoV l5, twoV l6⟩ w hT
  by_cases b7 : labB ⟨twoV l1, twoV l2, twoV l3, twoV l4, twoV l5, twoV l6⟩ = true
  · rw [b7] at C7 HC
    refine leap_Parse_ok s w hT h19 _ x4 x7 x10 x13 x16 _ _ _ _ _ _ C1 C2 C3 C4 C5 C6 C7 ?_
    unfold LabE
    rw [HC, HP]; rfl
  · have b7 : labB ⟨twoV l1, twoV l2, twoV l3, twoV l4, twoV l5, twoV l6⟩ = false := by simpa using b7
    rw [b7] at C7 HC
    refine leap_Parse_bad s w hT h19 _ x4 x7 x10 x13 x16 _ _ _ _ _ _ C1 C2 C3 C4 C5 C6 C7 ?_
    unfold LabE
    rw [HC, HP]; rfl
end Go.Proofs.YtcigoleplhdlaaaDoor
