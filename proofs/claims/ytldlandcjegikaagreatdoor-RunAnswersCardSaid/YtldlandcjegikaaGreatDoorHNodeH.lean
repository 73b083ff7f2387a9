/- Package node: a letter that is heard, walked. -/
import Derived.Test.YtldlandcjegikaaGreatDoorHNodeA
import Derived.Deep.DeepCutAuto
import Derived.Deep.CutBlock
namespace Go.Proofs.YtldlandcjegikaaGreatDoor
open Go.RowKit
set_option linter.unusedVariables false
set_option linter.unusedSimpArgs false
set_option maxRecDepth 100000 in
set_option maxHeartbeats 8000000 in
theorem hear_back (g mb K : Nat) (s : NSt) (L : RLetter) (here : Int) (w : World) (h : NodeAt w g mb K s) (hb : s.backB here = true) :
  Calls Tryz.prog 95 #[.pointer (some ⟨g, 0, none⟩), .agg #[.int .i64 L.src, .int .i64 L.dst, .bool L.answer, .int .i64 L.t1, .int .i64 L.t2, .int .i64 L.t], .int .i64 here] w fun e w' => e = .returned (.tuple #[.bool false, .iface 88 (.int .i64 8)]) ∧ Below w.heap.size w w' := by
 have CB := Lib.hid (fun w' (hb' : Below w.heap.size w w') => by have := node_back g mb K s here w' (h.below hb'); rw [hb] at this; exact this)
 clear h hb
 go_enter Tryz.func95, Tryz.ntmps95
 go_wp2_with fail
 refine (CB.out _ (by exact BeL)).mono ?_
 rintro e w' ⟨rfl, rfl⟩
 go_wp2_with fail
 go_ret2
 exact ⟨rfl, BeL⟩
set_option maxRecDepth 100000 in
set_option maxHeartbeats 8000000 in
theorem hear_shape (g mb K : Nat) (s : NSt) (L : RLetter) (here : Int) (w : World) (h : NodeAt w g mb K s) (hb : s.backB here = false) (h1 : L.dst ≠ s.id ∨ L.src = s.id ∨ L.src < 0 ∨ (s.N : Int) ≤ L.src) :
  Calls Tryz.prog 95 #[.pointer (some ⟨g, 0, none⟩), .agg #[.int .i64 L.src, .int .i64 L.dst, .bool L.answer, .int .i64 L.t1, .int .i64 L.t2, .int .i64 L.t], .int .i64 here] w fun e w' => e = .returned (.tuple #[.bool false, .iface 88 (.int .i64 3)]) ∧ Below w.heap.size w w' := by
 have CB := Lib.hid (fun w' (hb' : Below w.heap.size w w') => by have := node_back g mb K s here w' (h.below hb'); rw [hb] at this; exact this)
 have c0 := h.blk.cell 0
 have c1 := h.blk.cell 1
 have c2 := h.blk.cell 2
 have c3 := h.blk.cell 3
 have c4 := h.blk.cell 4
 have kl := h.blk.lt
 have kf := fun o => h.blk.fz o
 have kl2 : g < w.heap.size + 1 := by omega
 simp at c0 c1 c2 c3 c4
 obtain ⟨q, hq⟩ : ∃ q, nodeB (s.N : Int) L.src = q := ⟨_, rfl⟩
 have CN := Lib.hid (fun w => by have := Node_any (s.N : Int) L.src w; rw [hq] at this; exact this)
 have hd : ((L.dst != (s.id : Int)) = true) ∨ ((L.dst != (s.id : Int)) = false ∧ (L.src == (s.id : Int)) = true) ∨ ((L.dst != (s.id : Int)) = false ∧ (L.src == (s.id : Int)) = false ∧ q = false) := by
  by_cases e1 : L.dst = s.id
  ·by_cases e2 : L.src = s.id
   ·right; left; simp [e1, e2]
   ·right; right; refine ⟨by simp [e1], by simp; exact e2, ?_⟩
    cases q
    ·rfl
    ·rw [nodeB_iff] at hq; omega
  ·left; simp; exact e1
 clear h hb h1 hq c2 c3 c4
 rcases hd with d1 | ⟨d1, d2⟩ | ⟨d1, d2, rfl⟩
 all_goals
  go_enter Tryz.func95, Tryz.ntmps95
  go_wp2_with fail
  refine (CB.out _ (by exact BeL)).mono ?_
  rintro e w' ⟨rfl, rfl⟩
  go_wp2_with fail
  go_quiet ((go_at_call 57; exact quiet_left (CN.out _)))
  go_wp2_with fail
  go_ret2
  exact ⟨rfl, BeL⟩
set_option maxRecDepth 100000 in
set_option maxHeartbeats 8000000 in
theorem hear_ask (g mb K : Nat) (s : NSt) (L : RLetter) (here : Int) (w : World) (h : NodeAt w g mb K s) (hb : s.backB here = false) (h1 : L.dst = s.id) (h2 : L.src ≠ s.id) (h3 : 0 ≤ L.src) (h4 : L.src < s.N) (h5 : L.answer = false) :
  Calls Tryz.prog 95 #[.pointer (some ⟨g, 0, none⟩), .agg #[.int .i64 L.src, .int .i64 L.dst, .bool L.answer, .int .i64 L.t1, .int .i64 L.t2, .int .i64 L.t], .int .i64 here] w fun e w' => e = .returned (.tuple #[.bool false, .nilIface]) ∧ NodeAt w' g mb (K + 1) (s.heard here) ∧ Kept (NMine g mb) w w' := by
 have CB := Lib.hid (fun w' (hb' : Below w.heap.size w w') => by have := node_back g mb K s here w' (h.below hb'); rw [hb] at this; exact this)
 have c0 := h.blk.cell 0
 have c1 := h.blk.cell 1
 have c2 := h.blk.cell 2
 have c3 := h.blk.cell 3
 have c4 := h.blk.cell 4
 have kl := h.blk.lt
 have kf := fun o => h.blk.fz o
 have kl2 : g < w.heap.size + 1 := by omega
 simp at c0 c1 c2 c3 c4
 have d1 : (L.dst != (s.id : Int)) = false := by simp; exact h1
 have d2 : (L.src == (s.id : Int)) = false := by simp; exact h2
 have CN := Lib.hid (fun w => by have := Node_any (s.N : Int) L.src w; rw [nodeB_iff.2 ⟨h3, h4⟩] at this; exact this)
 have HU := Lib.hid (h.mono (show K ≤ K + 1 by omega))
 have HO := Lib.hid (NSt.heard_ok h.ok hb)
 clear h hb h1 h2 h3 h4 c2 c4
 go_enter Tryz.func95, Tryz.ntmps95
 go_wp2_with fail
 refine (CB.out _ (by exact BeL)).mono ?_
 rintro e w' ⟨rfl, rfl⟩
 go_wp2_with fail
 go_quiet ((go_at_call 57; exact quiet_left (CN.out _)))
 go_wp2_with fail
 go_ret2
 refine ⟨rfl, ⟨?_, ?_, HU.out.ne, HO.out⟩, ?_⟩
 ·exact (((HU.out.blk.alloc _).drewN _).set 3 _).conv rfl
 ·exact ((HU.out.mp.alloc _).drewN _).far (fun e => HU.out.ne (by simpa using e.symm)) _
 ·exact ((((Kept.refl _ w).alloc _).drewN _).set g 3 _ (.inl (.inl rfl)))
set_option maxRecDepth 100000 in
set_option maxHeartbeats 8000000 in
theorem hear_bad (g mb K : Nat) (s : NSt) (L : RLetter) (here : Int) (w : World) (h : NodeAt w g mb K s) (hb : s.backB here = false) (h1 : L.dst = s.id) (h2 : L.src ≠ s.id) (h3 : 0 ≤ L.src) (h4 : L.src < s.N) (h5 : L.answer = true) (h6 : (offL L here s.p).c ≠ 0) :
  Calls Tryz.prog 95 #[.pointer (some ⟨g, 0, none⟩), .agg #[.int .i64 L.src, .int .i64 L.dst, .bool L.answer, .int .i64 L.t1, .int .i64 L.t2, .int .i64 L.t], .int .i64 here] w fun e w' => e = .returned (.tuple #[.bool false, errV (offL L here s.p).c]) ∧ Below w.heap.size w w' := by
 have CB := Lib.hid (fun w' (hb' : Below w.heap.size w w') => by have := node_back g mb K s here w' (h.below hb'); rw [hb] at this; exact this)
 have c0 := h.blk.cell 0
 have c1 := h.blk.cell 1
 have c2 := h.blk.cell 2
 have c3 := h.blk.cell 3
 have c4 := h.blk.cell 4
 have kl := h.blk.lt
 have kf := fun o => h.blk.fz o
 have kl2 : g < w.heap.size + 1 := by omega
 simp at c0 c1 c2 c3 c4
 have d1 : (L.dst != (s.id : Int)) = false := by simp; exact h1
 have d2 : (L.src == (s.id : Int)) = false := by simp; exact h2
 have CN := Lib.hid (fun w => by have := Node_any (s.N : Int) L.src w; rw [nodeB_iff.2 ⟨h3, h4⟩] at this; exact this)
 have CO := Lib.hid (fun w => by have := Offset_any L.t1 L.t2 L.t here s.p w; unfold offL at h6; rw [errV_ne h6] at this; exact this)
 unfold offL at h6 ⊢
 rw [errV_ne h6]
 clear h hb h1 h2 h3 h4 c3 c4
 go_enter Tryz.func95, Tryz.ntmps95
 go_wp2_with fail
 refine (CB.out _ (by exact BeL)).mono ?_
 rintro e w' ⟨rfl, rfl⟩
 go_wp2_with fail
 go_quiet ((go_at_call 57; exact quiet_left (CN.out _)))
 go_wp2_with fail
 obtain ⟨W1, hW1⟩ : ∃ W, ((w.alloc (.cells #[.int .i64 L.src, .int .i64 L.dst, .bool true, .int .i64 L.t1, .int .i64 L.t2, .int .i64 L.t] 110)).drewN nq) = W := ⟨_, rfl⟩
 have HB1 : Below w.heap.size w W1 := by rw [← hW1]; exact BeL
 have hs1 : W1.heap.size = w.heap.size + 1 := by rw [← hW1]; simp
 have bx : Blk W1 w.heap.size 110 #[.int .i64 L.src, .int .i64 L.dst, .bool true, .int .i64 L.t1, .int .i64 L.t2, .int .i64 L.t] := by rw [← hW1]; exact (Blk.new w _ _).drewN _
 have x3 : W1.cell? ⟨w.heap.size, 3, none⟩ = some (.int .i64 L.t1) := bx.cell 3
 have x4 : W1.cell? ⟨w.heap.size, 4, none⟩ = some (.int .i64 L.t2) := bx.cell 4
 have x5 : W1.cell? ⟨w.heap.size, 5, none⟩ = some (.int .i64 L.t) := bx.cell 5
 have xp : W1.cell? ⟨g, 2, none⟩ = some (.int .i64 s.p) := (HB1.cell (p := ⟨g, 2, none⟩) kl).trans c2
 have BX := Lib.hid bx
 rw [hW1]
 clear hW1 bx c0 c1 c2 CN CB d1 d2 kf kl2
 go_region_held3 (fun w' => w'.cell? ⟨w.heap.size, 3, none⟩ = some (.int .i64 L.t1) ∧ w'.cell? ⟨w.heap.size, 4, none⟩ = some (.int .i64 L.t2) ∧ w'.cell? ⟨w.heap.size, 5, none⟩ = some (.int .i64 L.t) ∧ w'.cell? ⟨g, 2, none⟩ = some (.int .i64 s.p)) (((repeat' apply And.intro) <;> exact (Below.cell (B := (W1).heap.size) (w := W1) BeL oSo).trans (by assumption))) ((go_at_call 133; (with_reducible refine (CO.out _).mono ?_); rintro e w2 ⟨rfl, hb2⟩; obtain ⟨hc2, hf2⟩ := bcell hb2; have hz2 := hb2.size; (try simp at hz2); (try have := q00_ w w2); (try have := q02_ w w2); (try have := q03_ w w2); (try have := q10_ w w2); (try have := q12_ w w2); (try have := q13_ w w2); (try have := q20_ w w2); (try have := q22_ w w2); (try have := q23_ w w2); (try have := q30_ w w2); (try have := q32_ w w2); (try have := q33_ w w2); (try have := q00_ w1 w2); (try have := q02_ w1 w2); (try have := q10_ w1 w2); (try have := q12_ w1 w2)))
 all_goals
  go_wp2_with fail
  go_ret2
  exact ⟨rfl, BeL⟩
set_option maxRecDepth 100000 in
set_option maxHeartbeats 8000000 in
theorem hear_first (g mb K : Nat) (s : NSt) (L : RLetter) (here : Int) (w : World) (h : NodeAt w g mb K s) (hb : s.backB here = false) (h1 : L.dst = s.id) (h2 : L.src ≠ s.id) (h3 : 0 ≤ L.src) (h4 : L.src < s.N) (h5 : L.answer = true) (h6 : (offL L here s.p).c = 0) (h7 : s.f L.src = none) (hK : K < 1000000) :
  Calls Tryz.prog 95 #[.pointer (some ⟨g, 0, none⟩), .agg #[.int .i64 L.src, .int .i64 L.dst, .bool L.answer, .int .i64 L.t1, .int .i64 L.t2, .int .i64 L.t], .int .i64 here] w fun e w' => e = .returned (.tuple #[.bool true, .nilIface]) ∧ NodeAt w' g mb (K + 1) (s.learn L.src here (offL L here s.p).lo (offL L here s.p).hi) ∧ Kept (NMine g mb) w w' := by
 have CB := Lib.hid (fun w' (hb' : Below w.heap.size w w') => by have := node_back g mb K s here w' (h.below hb'); rw [hb] at this; exact this)
 have c0 := h.blk.cell 0
 have c1 := h.blk.cell 1
 have c2 := h.blk.cell 2
 have c3 := h.blk.cell 3
 have c4 := h.blk.cell 4
 have kl := h.blk.lt
 have kf := fun o => h.blk.fz o
 have kl2 : g < w.heap.size + 1 := by omega
 simp at c0 c1 c2 c3 c4
 have d1 : (L.dst != (s.id : Int)) = false := by simp; exact h1
 have d2 : (L.src == (s.id : Int)) = false := by simp; exact h2
 have CN := Lib.hid (fun w => by have := Node_any (s.N : Int) L.src w; rw [nodeB_iff.2 ⟨h3, h4⟩] at this; exact this)
 have hx := wf_i64 (show -9223372036854775808 ≤ L.src ∧ L.src ≤ 9223372036854775807 by have := h.ok.n6; omega)
 have HU := Lib.hid h
 obtain ⟨lo, hlo⟩ : ∃ v, (offL L here s.p).lo = v := ⟨_, rfl⟩
 obtain ⟨hi, hhi⟩ : ∃ v, (offL L here s.p).hi = v := ⟨_, rfl⟩
 have CO := Lib.hid (fun w => by have := Offset_any L.t1 L.t2 L.t here s.p w; unfold offL at h6 hlo hhi; rw [h6, hlo, hhi] at this; exact this)
 rw [hlo, hhi]
 have HO := Lib.hid (by have := NSt.learn_ok h.ok hb h2 h3 h4 (offS_right h6); show (s.learn L.src here lo hi).Ok; rw [← hlo, ← hhi]; exact this)
 clear h hb h1 h2 h3 h4 h6 hlo hhi
 go_enter Tryz.func95, Tryz.ntmps95
 go_wp2_with fail
 refine (CB.out _ (by exact BeL)).mono ?_
 rintro e w' ⟨rfl, rfl⟩
 go_wp2_with fail
 go_quiet ((go_at_call 57; exact quiet_left (CN.out _)))
 go_wp2_with fail
 obtain ⟨W1, hW1⟩ : ∃ W, ((w.alloc (.cells #[.int .i64 L.src, .int .i64 L.dst, .bool true, .int .i64 L.t1, .int .i64 L.t2, .int .i64 L.t] 110)).drewN nq) = W := ⟨_, rfl⟩
 have HB1 : Below w.heap.size w W1 := by rw [← hW1]; exact BeL
 have hs1 : W1.heap.size = w.heap.size + 1 := by rw [← hW1]; simp
 have bx : Blk W1 w.heap.size 110 #[.int .i64 L.src, .int .i64 L.dst, .bool true, .int .i64 L.t1, .int .i64 L.t2, .int .i64 L.t] := by rw [← hW1]; exact (Blk.new w _ _).drewN _
 have x3 : W1.cell? ⟨w.heap.size, 3, none⟩ = some (.int .i64 L.t1) := bx.cell 3
 have x4 : W1.cell? ⟨w.heap.size, 4, none⟩ = some (.int .i64 L.t2) := bx.cell 4
 have x5 : W1.cell? ⟨w.heap.size, 5, none⟩ = some (.int .i64 L.t) := bx.cell 5
 have xp : W1.cell? ⟨g, 2, none⟩ = some (.int .i64 s.p) := (HB1.cell (p := ⟨g, 2, none⟩) kl).trans c2
 have BX := Lib.hid bx
 rw [hW1]
 clear hW1 bx c0 c1 c2 CN CB d1 d2 kf kl2
 go_cut [8, 9] (fun s8 s9 wx => ∃ r, s8 = .pointer (some ⟨r, 0, none⟩) ∧ s9 = .nilIface ∧ W1.heap.size ≤ r ∧ Blk wx r 34 #[.int .i64 lo, .int .i64 hi] ∧ Below W1.heap.size W1 wx)
 case first =>
  go_region_held3 (fun w' => w'.cell? ⟨w.heap.size, 3, none⟩ = some (.int .i64 L.t1) ∧ w'.cell? ⟨w.heap.size, 4, none⟩ = some (.int .i64 L.t2) ∧ w'.cell? ⟨w.heap.size, 5, none⟩ = some (.int .i64 L.t) ∧ w'.cell? ⟨g, 2, none⟩ = some (.int .i64 s.p)) (((repeat' apply And.intro) <;> exact (Below.cell (B := (W1).heap.size) (w := W1) BeL oSo).trans (by assumption))) ((go_at_call 133; (with_reducible refine (CO.out _).mono ?_); rintro e w2 ⟨rfl, hb2⟩; obtain ⟨hc2, hf2⟩ := bcell hb2; have hz2 := hb2.size; (try simp at hz2); (try have := q00_ w w2); (try have := q02_ w w2); (try have := q03_ w w2); (try have := q10_ w w2); (try have := q12_ w w2); (try have := q13_ w w2); (try have := q20_ w w2); (try have := q22_ w w2); (try have := q23_ w w2); (try have := q30_ w w2); (try have := q32_ w w2); (try have := q33_ w w2); (try have := q00_ w1 w2); (try have := q02_ w1 w2); (try have := q10_ w1 w2); (try have := q12_ w1 w2)))
  all_goals
   go_wp2_with fail
   go_meet
   case rel => exact ⟨_, rfl, rfl, by first | omega | (simp; omega), BkD, BeL⟩
 case rest =>
 obtain ⟨r, rfl, rfl, hr, hbr, hB⟩ := hcut
 have HBR := Lib.hid hbr
 have bx2 := BX.out.below hB (by omega)
 have BX2 := Lib.hid bx2
 have hz2 := hB.size
 have HB2 : Below w.heap.size w wc := HB1.trans (hB.mono HB1.size)
 have y0 : wc.cell? ⟨w.heap.size, 0, none⟩ = some (.int .i64 L.src) := bx2.cell 0
 have y4 : wc.cell? ⟨g, 4, none⟩ = some (.map (some mb)) := (HB2.cell (p := ⟨g, 4, none⟩) kl).trans c4
 have hlr := hbr.lt
 have hML := HU.out.mp.lt
 have HM2 := Lib.hid (HU.out.mp.below HB2 hML)
 clear CO x3 x4 x5 xp hbr bx2 hB
 have hz : ∀ W, (zeroValue 223).run Tryz.prog W = .ok (.agg #[.int .i64 0, .int .i64 0, .int .i64 0]) W := fun W => by kernel_rfl
 have HS := Lib.hid (fun W (hb : Below wc.heap.size wc W) => show MapF 3 W mb K (fun x => (s.f x).map Kn.val) ∧ W.cell? ⟨w.heap.size, 0, none⟩ = some (.int .i64 L.src) ∧ W.cell? ⟨g, 4, none⟩ = some (.map (some mb)) from ⟨HM2.out.below hb (by have := HM2.out.lt; exact this), (hb.cell (p := ⟨w.heap.size, 0, none⟩) (by show w.heap.size < _; omega)).trans y0, (hb.cell (p := ⟨g, 4, none⟩) (by show g < _; omega)).trans y4⟩)
 go_wp2_with fail
 go_cut [10, 11] (fun s10 s11 wx => ∃ q, s10 = .pointer (some ⟨q, 0, none⟩) ∧ s11 = .bool false ∧ wc.heap.size ≤ q ∧ Blk wx q 223 #[.int .i64 0, .int .i64 0, .int .i64 0] ∧ Below wc.heap.size wc wx)
 case first =>
  refine wp_region_held_drew (S := fun w9 => MapF 3 w9 mb K (fun x => (s.f x).map Kn.val) ∧ w9.cell? ⟨w.heap.size, 0, none⟩ = some (.int .i64 L.src) ∧ w9.cell? ⟨g, 4, none⟩ = some (.map (some mb))) kRf (⟨HM2.out, y0, y4⟩) (fun hHeld => ?_)
  refine tkH 0 (.pointer (some ⟨g, 0, none⟩)) (some 74) rfl hHeld ?_
  try simp only [Act.put,sI_,sZ_,sS_]
  refine tkH 1 (.pointer (some ⟨g, 0, none⟩)) (some 75) rfl hHeld ?_
  try simp only [Act.put,sI_,sZ_,sS_]
  refine tkH 2 (.pointer (some ⟨g, 4, none⟩)) (some 76) rfl hHeld ?_
  try simp only [Act.put,sI_,sZ_,sS_]
  refine tkG 3 (.map (some mb)) (some 77) rfl (fun w9 hw9 => by (obtain ⟨a0, a1, a2⟩ := hw9; go_simp)) hHeld ?_
  try simp only [Act.put,sI_,sZ_,sS_]
  refine tkH 4 (.pointer (some ⟨w.heap.size, 0, none⟩)) (some 78) rfl hHeld ?_
  try simp only [Act.put,sI_,sZ_,sS_]
  refine tkG 5 (.int .i64 L.src) (some 79) rfl (fun w9 hw9 => by (obtain ⟨a0, a1, a2⟩ := hw9; go_simp)) hHeld ?_
  try simp only [Act.put,sI_,sZ_,sS_]
  refine tkG 6 (.tuple #[.agg #[.int .i64 0, .int .i64 0, .int .i64 0], .bool false]) (some 80) rfl (fun w9 hw9 => by (obtain ⟨a0, a1, a2⟩ := hw9; have hl := a0.look (t := 136) (e := 223) Tryz.underlying3 Tryz.underlying136 (hz _) hx; rw [h7] at hl; simp only [Option.map_none, Option.map_some, Option.getD_none, Option.getD_some, Option.isSome_none, Option.isSome_some, Kn.val] at hl; go_simp)) hHeld ?_
  try simp only [Act.put,sI_,sZ_,sS_]
  refine tkH 7 (.tuple #[.agg #[.int .i64 0, .int .i64 0, .int .i64 0], .bool false]) (some 73) rfl hHeld ?_
  try simp only [Act.put,sI_,sZ_,sS_]
  refine tkH 8 (.agg #[.int .i64 0, .int .i64 0, .int .i64 0]) (some 81) rfl hHeld ?_
  try simp only [Act.put,sI_,sZ_,sS_]
  refine tkH 9 (.bool false) (some 82) rfl hHeld ?_
  try simp only [Act.put,sI_,sZ_,sS_]
  try simp only [Act.put,sI_,sZ_,sS_]
  refine wpAnyH_ready (rs := [10]) kRf (by simp) ?_; refine AllReadyH.cons rfl (fun K hK => ?_) AllReadyH.nil
  go_simp
  refine hK.out _ _ (HS.out _ (by exact BeL)) (fun hHeld2 => ?_); clear hK K hHeld; have hHeld := hHeld2; clear hHeld2
  try simp only [Act.put,sI_,sZ_,sS_]
  refine wpAnyH_ready (rs := [11]) kRf (by simp) ?_; refine AllReadyH.cons rfl (fun K hK => ?_) AllReadyH.nil
  go_simp
  refine hK.out _ _ (HS.out _ (by exact BeL)) (fun hHeld2 => ?_); clear hK K hHeld; have hHeld := hHeld2; clear hHeld2
  try simp only [Act.put,sI_,sZ_,sS_]
  refine tkH 12 (.bool false) (some 11) rfl hHeld ?_
  try simp only [Act.put,sI_,sZ_,sS_]
  refine wpAnyH_done kRf ?_ _
  try simp only [Act.put,sI_,sZ_,sS_]
  (try go_wp2_with fail)
  go_meet
  case rel => exact ⟨wc.heap.size, rfl, rfl, Nat.le_refl _, BkD, BeL⟩
 case rest =>
 obtain ⟨q, rfl, rfl, hq, hbq, hB3⟩ := hcut
 have HBQ := Lib.hid hbq
 have HBR3 := Lib.hid (HBR.out.below hB3 hlr)
 have BX3 := Lib.hid (BX2.out.below hB3 (by omega))
 have HM3 := Lib.hid (HM2.out.below hB3 (by have := HM2.out.lt; exact this))
 have HB3 := HB2.trans (hB3.mono HB2.size)
 have hz3 := hB3.size
 have HB3h := Lib.hid HB3
 clear HS HM2 HBR BX2 hB3 y0 y4 hz HB2 hbq
 obtain ⟨W9, rfl⟩ : ∃ x, x = wc := ⟨_, rfl⟩
 have BG9 := Lib.hid (HU.out.blk.below HB3h.out kl)
 have BX9 := BX3
 have BR9 := HBR3
 have HM9 := HM3
 have hrl9 := HBR3.out.lt
 have hr2 : w.heap.size + 1 ≤ r := by omega
 clear BX3 HBR3 HM3 HBQ
 have hnr : g ≠ r ∧ w.heap.size ≠ g ∧ mb ≠ g ∧ mb ≠ r ∧ mb ≠ w.heap.size := ⟨by omega, by omega, fun e => HU.out.ne e.symm, by omega, by omega⟩
 obtain ⟨n1, n2, n3, n4, n5⟩ := hnr
 have v0 : W9.cell? ⟨w.heap.size, 0, none⟩ = some (.int .i64 L.src) := BX9.out.cell 0
 have v3 : W9.cell? ⟨g, 3, none⟩ = some (.int .i64 s.h) := BG9.out.cell 3
 have vf : W9.frozen? ⟨g, 3, none⟩ = false := BG9.out.fz 3
 have gl9 : g < W9.heap.size := BG9.out.lt
 go_wp2_with fail
 obtain ⟨V, hV⟩ : ∃ V, W9.setCell ⟨g, 3, none⟩ (.int .i64 here) = V := ⟨_, rfl⟩
 have bg : Blk V g 138 #[.int .i64 s.id, .int .i64 s.N, .int .i64 s.p, .int .i64 here, .map (some mb)] := by rw [← hV]; exact (BG9.out.set 3 _).conv rfl
 have u0 : V.cell? ⟨w.heap.size, 0, none⟩ = some (.int .i64 L.src) := by rw [← hV]; exact (BX9.out.far (by show w.heap.size ≠ g; exact n2) _).cell 0
 have u4 : V.cell? ⟨g, 4, none⟩ = some (.map (some mb)) := bg.cell 4
 have hbr9 : Blk V r 34 #[.int .i64 lo, .int .i64 hi] := by rw [← hV]; exact BR9.out.far (by show r ≠ g; exact fun e => n1 e.symm) _
 have u5 : V.cell? ⟨r, 0, none⟩ = some (.int .i64 lo) := hbr9.cell 0
 have u6 : V.cell? ⟨r, 1, none⟩ = some (.int .i64 hi) := hbr9.cell 1
 have hm : MapF 3 V mb K (fun x => (s.f x).map Kn.val) := by rw [← hV]; exact HM9.out.far (by show mb ≠ g; exact n3) _
 have hKp : Kept (NMine g mb) w V := by rw [← hV]; exact ((Kept.refl _ w).below HB3h.out).set g 3 _ (.inl (.inl rfl))
 have gV : g < V.heap.size := bg.lt
 have wV : w.heap.size < V.heap.size := by rw [← hV]; simpa using BX9.out.lt
 have rV : r < V.heap.size := hbr9.lt
 rw [hV]
 have HBG := Lib.hid bg
 have HMV := Lib.hid hm
 have HKP := Lib.hid hKp
 clear hV bg hbr9 hm hKp v0 v3 vf gl9 BX9 BG9 BR9 HM9
 refine wp_region_held_drew (S := fun w9 => w9.cell? ⟨w.heap.size, 0, none⟩ = some (.int .i64 L.src) ∧ w9.cell? ⟨g, 4, none⟩ = some (.map (some mb)) ∧ w9.cell? ⟨r, 0, none⟩ = some (.int .i64 lo) ∧ w9.cell? ⟨r, 1, none⟩ = some (.int .i64 hi)) kRf (⟨u0, u4, u5, u6⟩) (fun hHeld => ?_)
 refine tkH 0 (.pointer (some ⟨g, 0, none⟩)) (some 101) rfl hHeld ?_
 try simp only [Act.put,sI_,sZ_,sS_]
 refine tkH 1 (.pointer (some ⟨g, 0, none⟩)) (some 102) rfl hHeld ?_
 try simp only [Act.put,sI_,sZ_,sS_]
 refine tkH 2 (.pointer (some ⟨g, 4, none⟩)) (some 103) rfl hHeld ?_
 try simp only [Act.put,sI_,sZ_,sS_]
 refine tkG 3 (.map (some mb)) (some 104) rfl (fun w9 hw9 => by (obtain ⟨a0, a1, a2, a3⟩ := hw9; go_simp)) hHeld ?_
 try simp only [Act.put,sI_,sZ_,sS_]
 refine tkH 4 (.pointer (some ⟨w.heap.size, 0, none⟩)) (some 105) rfl hHeld ?_
 try simp only [Act.put,sI_,sZ_,sS_]
 refine tkG 5 (.int .i64 L.src) (some 106) rfl (fun w9 hw9 => by (obtain ⟨a0, a1, a2, a3⟩ := hw9; go_simp)) hHeld ?_
 try simp only [Act.put,sI_,sZ_,sS_]
 refine tkG 6 (.agg #[.int .i64 lo, .int .i64 hi]) (some 107) rfl (fun w9 hw9 => by (obtain ⟨a0, a1, a2, a3⟩ := hw9; go_simp)) hHeld ?_
 try simp only [Act.put,sI_,sZ_,sS_]
 refine tkH 7 (.int .i64 here) (some 108) rfl hHeld ?_
 try simp only [Act.put,sI_,sZ_,sS_]
 refine tkH 8 (.agg #[.int .i64 lo, .int .i64 hi, .int .i64 here]) (some 109) rfl hHeld ?_
 try simp only [Act.put,sI_,sZ_,sS_]
 try simp only [Act.put,sI_,sZ_,sS_]
 refine wpAnyH_ready (rs := [9]) kRf (by simp) ?_; refine AllReadyH.cons rfl (fun K hK => ?_) AllReadyH.nil
 refine step_put (k := 3) (t := 136) (e := 223) rfl _ _ _ rfl Tryz.underlying3 Tryz.underlying136 mb _ _ (by simp [Act.eval, Act.put]) (HMV.out.drew) (by unfold maxLen; omega) L.src (.agg #[.int .i64 lo, .int .i64 hi, .int .i64 here]) (by simp [Act.eval, Act.put]) (by simp [Act.eval, Act.put]) hx ?_
 intro w8 hm8 hg8
 refine hK.out _ _ (⟨hg8.cell u0 (fun e => n5 (Option.some.inj e).symm), hg8.cell u4 (fun e => n3 (Option.some.inj e).symm), hg8.cell u5 (fun e => n4 (Option.some.inj e).symm), hg8.cell u6 (fun e => n4 (Option.some.inj e).symm)⟩) (fun hHeld2 => ?_); clear hK K hHeld; have hHeld := hHeld2; clear hHeld2
 try simp only [Act.put,sI_,sZ_,sS_]
 refine wpAnyH_done kRf ?_ _
 try simp only [Act.put,sI_,sZ_,sS_]
 go_wp2_with fail
 go_ret2
 refine ⟨rfl, ⟨?_, ?_, HU.out.ne, HO.out⟩, (HKP.out.drew).grown hg8 (fun k e => .inl (.inr (Option.some.inj e).symm))⟩
 ·exact (HBG.out.drew).grown hg8 (fun e => n3 (Option.some.inj e).symm)
 ·have e : (fun x => ((s.learn L.src here lo hi).f x).map Kn.val) = fun y => if y = L.src then some (.agg #[.int .i64 lo, .int .i64 hi, .int .i64 here]) else (s.f y).map Kn.val := by
   funext y
   show (if y = L.src then some (⟨lo, hi, here⟩ : Kn) else s.f y).map Kn.val = _
   by_cases c : y = L.src
   ·rw [if_pos c, if_pos c]; rfl
   ·rw [if_neg c, if_neg c]
  rw [e]
  exact hm8
set_option maxRecDepth 100000 in
set_option maxHeartbeats 8000000 in
theorem hear_clash (g mb K : Nat) (s : NSt) (L : RLetter) (here : Int) (w : World) (h : NodeAt w g mb K s) (k : Kn) (hb : s.backB here = false) (h1 : L.dst = s.id) (h2 : L.src ≠ s.id) (h3 : 0 ≤ L.src) (h4 : L.src < s.N) (h5 : L.answer = true) (h6 : (offL L here s.p).c = 0) (h7 : s.f L.src = some k) (h8 : commonB (ageL k s.p here) (ageH k s.p here) (offL L here s.p).lo (offL L here s.p).hi = false) :
  Calls Tryz.prog 95 #[.pointer (some ⟨g, 0, none⟩), .agg #[.int .i64 L.src, .int .i64 L.dst, .bool L.answer, .int .i64 L.t1, .int .i64 L.t2, .int .i64 L.t], .int .i64 here] w fun e w' => e = .returned (.tuple #[.bool false, .iface 88 (.int .i64 7)]) ∧ Below w.heap.size w w' := by
 have CB := Lib.hid (fun w' (hb' : Below w.heap.size w w') => by have := node_back g mb K s here w' (h.below hb'); rw [hb] at this; exact this)
 have c0 := h.blk.cell 0
 have c1 := h.blk.cell 1
 have c2 := h.blk.cell 2
 have c3 := h.blk.cell 3
 have c4 := h.blk.cell 4
 have kl := h.blk.lt
 have kf := fun o => h.blk.fz o
 have kl2 : g < w.heap.size + 1 := by omega
 simp at c0 c1 c2 c3 c4
 have d1 : (L.dst != (s.id : Int)) = false := by simp; exact h1
 have d2 : (L.src == (s.id : Int)) = false := by simp; exact h2
 have CN := Lib.hid (fun w => by have := Node_any (s.N : Int) L.src w; rw [nodeB_iff.2 ⟨h3, h4⟩] at this; exact this)
 have hx := wf_i64 (show -9223372036854775808 ≤ L.src ∧ L.src ≤ 9223372036854775807 by have := h.ok.n6; omega)
 have HU := Lib.hid h
 obtain ⟨lo, hlo⟩ : ∃ v, (offL L here s.p).lo = v := ⟨_, rfl⟩
 obtain ⟨hi, hhi⟩ : ∃ v, (offL L here s.p).hi = v := ⟨_, rfl⟩
 have CO := Lib.hid (fun w => by have := Offset_any L.t1 L.t2 L.t here s.p w; unfold offL at h6 hlo hhi; rw [h6, hlo, hhi] at this; exact this)
 rw [hlo, hhi] at h8
 have CA := Lib.hid (fun W (hb' : Below w.heap.size w W) => node_aged g mb K s L.src here k W (HU.out.below hb') h7 hb)
 have CC := Lib.hid (fun W => Common_any (ageL k s.p here) (ageH k s.p here) lo hi W)
 obtain ⟨al, hal⟩ : ∃ v, ageL k s.p here = v := ⟨_, rfl⟩
 obtain ⟨ah, hah⟩ : ∃ v, ageH k s.p here = v := ⟨_, rfl⟩
 rw [hal, hah] at CA CC
 rw [hal, hah] at h8
 obtain ⟨cm, hcm⟩ : ∃ v, commonB al ah lo hi = v := ⟨_, rfl⟩
 rw [hcm] at CC h8
 subst h8
 clear hb hal hah hcm
 clear h h1 h2 h3 h4 h6 hlo hhi
 go_enter Tryz.func95, Tryz.ntmps95
 go_wp2_with fail
 refine (CB.out _ (by exact BeL)).mono ?_
 rintro e w' ⟨rfl, rfl⟩
 go_wp2_with fail
 go_quiet ((go_at_call 57; exact quiet_left (CN.out _)))
 go_wp2_with fail
 obtain ⟨W1, hW1⟩ : ∃ W, ((w.alloc (.cells #[.int .i64 L.src, .int .i64 L.dst, .bool true, .int .i64 L.t1, .int .i64 L.t2, .int .i64 L.t] 110)).drewN nq) = W := ⟨_, rfl⟩
 have HB1 : Below w.heap.size w W1 := by rw [← hW1]; exact BeL
 have hs1 : W1.heap.size = w.heap.size + 1 := by rw [← hW1]; simp
 have bx : Blk W1 w.heap.size 110 #[.int .i64 L.src, .int .i64 L.dst, .bool true, .int .i64 L.t1, .int .i64 L.t2, .int .i64 L.t] := by rw [← hW1]; exact (Blk.new w _ _).drewN _
 have x3 : W1.cell? ⟨w.heap.size, 3, none⟩ = some (.int .i64 L.t1) := bx.cell 3
 have x4 : W1.cell? ⟨w.heap.size, 4, none⟩ = some (.int .i64 L.t2) := bx.cell 4
 have x5 : W1.cell? ⟨w.heap.size, 5, none⟩ = some (.int .i64 L.t) := bx.cell 5
 have xp : W1.cell? ⟨g, 2, none⟩ = some (.int .i64 s.p) := (HB1.cell (p := ⟨g, 2, none⟩) kl).trans c2
 have BX := Lib.hid bx
 rw [hW1]
 clear hW1 bx c0 c1 c2 CN CB d1 d2 kf kl2
 go_cut [8, 9] (fun s8 s9 wx => ∃ r, s8 = .pointer (some ⟨r, 0, none⟩) ∧ s9 = .nilIface ∧ W1.heap.size ≤ r ∧ Blk wx r 34 #[.int .i64 lo, .int .i64 hi] ∧ Below W1.heap.size W1 wx)
 case first =>
  go_region_held3 (fun w' => w'.cell? ⟨w.heap.size, 3, none⟩ = some (.int .i64 L.t1) ∧ w'.cell? ⟨w.heap.size, 4, none⟩ = some (.int .i64 L.t2) ∧ w'.cell? ⟨w.heap.size, 5, none⟩ = some (.int .i64 L.t) ∧ w'.cell? ⟨g, 2, none⟩ = some (.int .i64 s.p)) (((repeat' apply And.intro) <;> exact (Below.cell (B := (W1).heap.size) (w := W1) BeL oSo).trans (by assumption))) ((go_at_call 133; (with_reducible refine (CO.out _).mono ?_); rintro e w2 ⟨rfl, hb2⟩; obtain ⟨hc2, hf2⟩ := bcell hb2; have hz2 := hb2.size; (try simp at hz2); (try have := q00_ w w2); (try have := q02_ w w2); (try have := q03_ w w2); (try have := q10_ w w2); (try have := q12_ w w2); (try have := q13_ w w2); (try have := q20_ w w2); (try have := q22_ w w2); (try have := q23_ w w2); (try have := q30_ w w2); (try have := q32_ w w2); (try have := q33_ w w2); (try have := q00_ w1 w2); (try have := q02_ w1 w2); (try have := q10_ w1 w2); (try have := q12_ w1 w2)))
  all_goals
   go_wp2_with fail
   go_meet
   case rel => exact ⟨_, rfl, rfl, by first | omega | (simp; omega), BkD, BeL⟩
 case rest =>
 obtain ⟨r, rfl, rfl, hr, hbr, hB⟩ := hcut
 have HBR := Lib.hid hbr
 have bx2 := BX.out.below hB (by omega)
 have BX2 := Lib.hid bx2
 have hz2 := hB.size
 have HB2 : Below w.heap.size w wc := HB1.trans (hB.mono HB1.size)
 have y0 : wc.cell? ⟨w.heap.size, 0, none⟩ = some (.int .i64 L.src) := bx2.cell 0
 have y4 : wc.cell? ⟨g, 4, none⟩ = some (.map (some mb)) := (HB2.cell (p := ⟨g, 4, none⟩) kl).trans c4
 have hlr := hbr.lt
 have hML := HU.out.mp.lt
 have HM2 := Lib.hid (HU.out.mp.below HB2 hML)
 clear CO x3 x4 x5 xp hbr bx2 hB
 have hz : ∀ W, (zeroValue 223).run Tryz.prog W = .ok (.agg #[.int .i64 0, .int .i64 0, .int .i64 0]) W := fun W => by kernel_rfl
 have HS := Lib.hid (fun W (hb : Below wc.heap.size wc W) => show MapF 3 W mb K (fun x => (s.f x).map Kn.val) ∧ W.cell? ⟨w.heap.size, 0, none⟩ = some (.int .i64 L.src) ∧ W.cell? ⟨g, 4, none⟩ = some (.map (some mb)) from ⟨HM2.out.below hb (by have := HM2.out.lt; exact this), (hb.cell (p := ⟨w.heap.size, 0, none⟩) (by show w.heap.size < _; omega)).trans y0, (hb.cell (p := ⟨g, 4, none⟩) (by show g < _; omega)).trans y4⟩)
 go_wp2_with fail
 go_cut [10, 11] (fun s10 s11 wx => ∃ q, s10 = .pointer (some ⟨q, 0, none⟩) ∧ s11 = .bool true ∧ wc.heap.size ≤ q ∧ Blk wx q 223 #[.int .i64 k.lo, .int .i64 k.hi, .int .i64 k.at_] ∧ Below wc.heap.size wc wx)
 case first =>
  refine wp_region_held_drew (S := fun w9 => MapF 3 w9 mb K (fun x => (s.f x).map Kn.val) ∧ w9.cell? ⟨w.heap.size, 0, none⟩ = some (.int .i64 L.src) ∧ w9.cell? ⟨g, 4, none⟩ = some (.map (some mb))) kRf (⟨HM2.out, y0, y4⟩) (fun hHeld => ?_)
  refine tkH 0 (.pointer (some ⟨g, 0, none⟩)) (some 74) rfl hHeld ?_
  try simp only [Act.put,sI_,sZ_,sS_]
  refine tkH 1 (.pointer (some ⟨g, 0, none⟩)) (some 75) rfl hHeld ?_
  try simp only [Act.put,sI_,sZ_,sS_]
  refine tkH 2 (.pointer (some ⟨g, 4, none⟩)) (some 76) rfl hHeld ?_
  try simp only [Act.put,sI_,sZ_,sS_]
  refine tkG 3 (.map (some mb)) (some 77) rfl (fun w9 hw9 => by (obtain ⟨a0, a1, a2⟩ := hw9; go_simp)) hHeld ?_
  try simp only [Act.put,sI_,sZ_,sS_]
  refine tkH 4 (.pointer (some ⟨w.heap.size, 0, none⟩)) (some 78) rfl hHeld ?_
  try simp only [Act.put,sI_,sZ_,sS_]
  refine tkG 5 (.int .i64 L.src) (some 79) rfl (fun w9 hw9 => by (obtain ⟨a0, a1, a2⟩ := hw9; go_simp)) hHeld ?_
  try simp only [Act.put,sI_,sZ_,sS_]
  refine tkG 6 (.tuple #[.agg #[.int .i64 k.lo, .int .i64 k.hi, .int .i64 k.at_], .bool true]) (some 80) rfl (fun w9 hw9 => by (obtain ⟨a0, a1, a2⟩ := hw9; have hl := a0.look (t := 136) (e := 223) Tryz.underlying3 Tryz.underlying136 (hz _) hx; rw [h7] at hl; simp only [Option.map_none, Option.map_some, Option.getD_none, Option.getD_some, Option.isSome_none, Option.isSome_some, Kn.val] at hl; go_simp)) hHeld ?_
  try simp only [Act.put,sI_,sZ_,sS_]
  refine tkH 7 (.tuple #[.agg #[.int .i64 k.lo, .int .i64 k.hi, .int .i64 k.at_], .bool true]) (some 73) rfl hHeld ?_
  try simp only [Act.put,sI_,sZ_,sS_]
  refine tkH 8 (.agg #[.int .i64 k.lo, .int .i64 k.hi, .int .i64 k.at_]) (some 81) rfl hHeld ?_
  try simp only [Act.put,sI_,sZ_,sS_]
  refine tkH 9 (.bool true) (some 82) rfl hHeld ?_
  try simp only [Act.put,sI_,sZ_,sS_]
  try simp only [Act.put,sI_,sZ_,sS_]
  refine wpAnyH_ready (rs := [10]) kRf (by simp) ?_; refine AllReadyH.cons rfl (fun K hK => ?_) AllReadyH.nil
  go_simp
  refine hK.out _ _ (HS.out _ (by exact BeL)) (fun hHeld2 => ?_); clear hK K hHeld; have hHeld := hHeld2; clear hHeld2
  try simp only [Act.put,sI_,sZ_,sS_]
  refine wpAnyH_ready (rs := [11]) kRf (by simp) ?_; refine AllReadyH.cons rfl (fun K hK => ?_) AllReadyH.nil
  go_simp
  refine hK.out _ _ (HS.out _ (by exact BeL)) (fun hHeld2 => ?_); clear hK K hHeld; have hHeld := hHeld2; clear hHeld2
  try simp only [Act.put,sI_,sZ_,sS_]
  refine tkH 12 (.bool true) (some 11) rfl hHeld ?_
  try simp only [Act.put,sI_,sZ_,sS_]
  refine wpAnyH_done kRf ?_ _
  try simp only [Act.put,sI_,sZ_,sS_]
  (try go_wp2_with fail)
  go_meet
  case rel => exact ⟨wc.heap.size, rfl, rfl, Nat.le_refl _, BkD, BeL⟩
 case rest =>
 obtain ⟨q, rfl, rfl, hq, hbq, hB3⟩ := hcut
 have HBQ := Lib.hid hbq
 have HBR3 := Lib.hid (HBR.out.below hB3 hlr)
 have BX3 := Lib.hid (BX2.out.below hB3 (by omega))
 have HM3 := Lib.hid (HM2.out.below hB3 (by have := HM2.out.lt; exact this))
 have HB3 := HB2.trans (hB3.mono HB2.size)
 have hz3 := hB3.size
 have HB3h := Lib.hid HB3
 clear HS HM2 HBR BX2 hB3 y0 y4 hz HB2 hbq
 obtain ⟨wb, rfl⟩ : ∃ x, x = wc := ⟨_, rfl⟩
 have t0 : wb.cell? ⟨q, 0, none⟩ = some (.int .i64 k.lo) := HBQ.out.cell 0
 have t1 : wb.cell? ⟨q, 1, none⟩ = some (.int .i64 k.hi) := HBQ.out.cell 1
 have t2 : wb.cell? ⟨q, 2, none⟩ = some (.int .i64 k.at_) := HBQ.out.cell 2
 have t3 : wb.cell? ⟨r, 0, none⟩ = some (.int .i64 lo) := HBR3.out.cell 0
 have t4 : wb.cell? ⟨r, 1, none⟩ = some (.int .i64 hi) := HBR3.out.cell 1
 have ql := HBQ.out.lt
 have rl := HBR3.out.lt
 have hzb := HB3.size
 go_wp2_with fail
 go_cut [12, 13] (fun s12 s13 wx => ∃ r2, s12 = .pointer (some ⟨r2, 0, none⟩) ∧ s13 = .bool false ∧ wb.heap.size ≤ r2 ∧ Blk wx r2 34 #[.int .i64 (max al lo), .int .i64 (min ah hi)] ∧ Below wb.heap.size wb wx)
 case first =>
  go_region_held3 (fun w' => w'.cell? ⟨q, 0, none⟩ = some (.int .i64 k.lo) ∧ w'.cell? ⟨q, 1, none⟩ = some (.int .i64 k.hi) ∧ w'.cell? ⟨q, 2, none⟩ = some (.int .i64 k.at_) ∧ w'.cell? ⟨r, 0, none⟩ = some (.int .i64 lo) ∧ w'.cell? ⟨r, 1, none⟩ = some (.int .i64 hi)) (((repeat' apply And.intro) <;> exact (Below.cell (B := (wb).heap.size) (w := wb) BeL oSo).trans (by assumption))) (first | ((go_at_call 134; (with_reducible refine (CC.out _).mono ?_); rintro e w4 ⟨rfl, hb4⟩; obtain ⟨hc4, hf4⟩ := bcell hb4; have hz4 := hb4.size; (try simp at hz4); (try have := q00_ w w4); (try have := q02_ w w4); (try have := q03_ w w4); (try have := q10_ w w4); (try have := q12_ w w4); (try have := q13_ w w4); (try have := q20_ w w4); (try have := q22_ w w4); (try have := q23_ w w4); (try have := q30_ w w4); (try have := q32_ w w4); (try have := q33_ w w4); (try have := q00_ w1 w4); (try have := q02_ w1 w4); (try have := q10_ w1 w4); (try have := q12_ w1 w4); (try have := q00_ w2 w4); (try have := q02_ w2 w4); (try have := q10_ w2 w4); (try have := q12_ w2 w4); (try have := q00_ w3 w4); (try have := q02_ w3 w4); (try have := q10_ w3 w4); (try have := q12_ w3 w4)); (try have := q00_ wb w4); (try have := q00_ wb w3)) | ((go_at_call 135; (with_reducible refine (CA.out _ (HB3h.out.trans ((show Below wb.heap.size wb _ from by exact BeL).mono HB3h.out.size))).mono ?_); rintro e w3 ⟨rfl, hb3⟩; obtain ⟨hc3, hf3⟩ := bcell hb3; have hz3 := hb3.size; (try simp at hz3); (try have := q00_ w w3); (try have := q02_ w w3); (try have := q03_ w w3); (try have := q10_ w w3); (try have := q12_ w w3); (try have := q13_ w w3); (try have := q20_ w w3); (try have := q22_ w w3); (try have := q23_ w w3); (try have := q30_ w w3); (try have := q32_ w w3); (try have := q33_ w w3); (try have := q00_ w1 w3); (try have := q02_ w1 w3); (try have := q10_ w1 w3); (try have := q12_ w1 w3); (try have := q00_ w2 w3); (try have := q02_ w2 w3); (try have := q10_ w2 w3); (try have := q12_ w2 w3)); (try have := q00_ wb w3); (try have := q01_ wb w3)))
  all_goals
   (try go_wp2_with fail)
   go_meet
   case rel => exact ⟨_, rfl, rfl, by first | omega | (simp; omega), BkD, BeL⟩
 case rest =>
 obtain ⟨r2, rfl, rfl, hr2, hbr2, hB4⟩ := hcut
 have w0 : wc.cell? ⟨r2, 0, none⟩ = some (.int .i64 (max al lo)) := hbr2.cell 0
 have w1 : wc.cell? ⟨r2, 1, none⟩ = some (.int .i64 (min ah hi)) := hbr2.cell 1
 have BR4 := HBR3.out.below hB4 rl
 have w2 : wc.cell? ⟨r, 0, none⟩ = some (.int .i64 lo) := BR4.cell 0
 have w3 : wc.cell? ⟨r, 1, none⟩ = some (.int .i64 hi) := BR4.cell 1
 have w4 : wc.frozen? ⟨r, 0, none⟩ = false := BR4.fz 0
 have w5 : wc.frozen? ⟨r, 1, none⟩ = false := BR4.fz 1
 have rl2 := hbr2.lt
 have rl4 := BR4.lt
 have hrr : r ≠ r2 := by omega
 have HB4 := Lib.hid (HB3h.out.trans (hB4.mono HB3h.out.size))
 clear hB4 hbr2 BR4 t0 t1 t2 t3 t4
 go_wp2_with fail
 go_ret2
 exact ⟨rfl, HB4.out⟩
set_option maxRecDepth 100000 in
set_option maxHeartbeats 8000000 in
theorem hear_more (g mb K : Nat) (s : NSt) (L : RLetter) (here : Int) (w : World) (h : NodeAt w g mb K s) (k : Kn) (hb : s.backB here = false) (h1 : L.dst = s.id) (h2 : L.src ≠ s.id) (h3 : 0 ≤ L.src) (h4 : L.src < s.N) (h5 : L.answer = true) (h6 : (offL L here s.p).c = 0) (h7 : s.f L.src = some k) (h8 : commonB (ageL k s.p here) (ageH k s.p here) (offL L here s.p).lo (offL L here s.p).hi = true) (hK : K < 1000000) :
  Calls Tryz.prog 95 #[.pointer (some ⟨g, 0, none⟩), .agg #[.int .i64 L.src, .int .i64 L.dst, .bool L.answer, .int .i64 L.t1, .int .i64 L.t2, .int .i64 L.t], .int .i64 here] w fun e w' => e = .returned (.tuple #[.bool true, .nilIface]) ∧ NodeAt w' g mb (K + 1) (s.learn L.src here (max (ageL k s.p here) (offL L here s.p).lo) (min (ageH k s.p here) (offL L here s.p).hi)) ∧ Kept (NMine g mb) w w' := by
 have HO0 := Lib.hid ((Hears.more k hb h1 h2 h3 h4 h5 h6 h7 h8).ok h.ok)
 have CB := Lib.hid (fun w' (hb' : Below w.heap.size w w') => by have := node_back g mb K s here w' (h.below hb'); rw [hb] at this; exact this)
 have c0 := h.blk.cell 0
 have c1 := h.blk.cell 1
 have c2 := h.blk.cell 2
 have c3 := h.blk.cell 3
 have c4 := h.blk.cell 4
 have kl := h.blk.lt
 have kf := fun o => h.blk.fz o
 have kl2 : g < w.heap.size + 1 := by omega
 simp at c0 c1 c2 c3 c4
 have d1 : (L.dst != (s.id : Int)) = false := by simp; exact h1
 have d2 : (L.src == (s.id : Int)) = false := by simp; exact h2
 have CN := Lib.hid (fun w => by have := Node_any (s.N : Int) L.src w; rw [nodeB_iff.2 ⟨h3, h4⟩] at this; exact this)
 have hx := wf_i64 (show -9223372036854775808 ≤ L.src ∧ L.src ≤ 9223372036854775807 by have := h.ok.n6; omega)
 have HU := Lib.hid h
 obtain ⟨lo, hlo⟩ : ∃ v, (offL L here s.p).lo = v := ⟨_, rfl⟩
 obtain ⟨hi, hhi⟩ : ∃ v, (offL L here s.p).hi = v := ⟨_, rfl⟩
 have CO := Lib.hid (fun w => by have := Offset_any L.t1 L.t2 L.t here s.p w; unfold offL at h6 hlo hhi; rw [h6, hlo, hhi] at this; exact this)
 rw [hlo, hhi] at h8 HO0 ⊢
 have CA := Lib.hid (fun W (hb' : Below w.heap.size w W) => node_aged g mb K s L.src here k W (HU.out.below hb') h7 hb)
 have CC := Lib.hid (fun W => Common_any (ageL k s.p here) (ageH k s.p here) lo hi W)
 obtain ⟨al, hal⟩ : ∃ v, ageL k s.p here = v := ⟨_, rfl⟩
 obtain ⟨ah, hah⟩ : ∃ v, ageH k s.p here = v := ⟨_, rfl⟩
 rw [hal, hah] at CA CC
 rw [hal, hah] at h8 HO0 ⊢
 obtain ⟨cm, hcm⟩ : ∃ v, commonB al ah lo hi = v := ⟨_, rfl⟩
 rw [hcm] at CC h8
 subst h8
 clear hb hal hah hcm
 obtain ⟨mlo, hmlo⟩ : ∃ v, max al lo = v := ⟨_, rfl⟩
 obtain ⟨mhi, hmhi⟩ : ∃ v, min ah hi = v := ⟨_, rfl⟩
 rw [hmlo, hmhi] at HO0 CC ⊢
 clear hmlo hmhi
 have HO := HO0
 clear h h1 h2 h3 h4 h6 hlo hhi
 go_enter Tryz.func95, Tryz.ntmps95
 go_wp2_with fail
 refine (CB.out _ (by exact BeL)).mono ?_
 rintro e w' ⟨rfl, rfl⟩
 go_wp2_with fail
 go_quiet ((go_at_call 57; exact quiet_left (CN.out _)))
 go_wp2_with fail
 obtain ⟨W1, hW1⟩ : ∃ W, ((w.alloc (.cells #[.int .i64 L.src, .int .i64 L.dst, .bool true, .int .i64 L.t1, .int .i64 L.t2, .int .i64 L.t] 110)).drewN nq) = W := ⟨_, rfl⟩
 have HB1 : Below w.heap.size w W1 := by rw [← hW1]; exact BeL
 have hs1 : W1.heap.size = w.heap.size + 1 := by rw [← hW1]; simp
 have bx : Blk W1 w.heap.size 110 #[.int .i64 L.src, .int .i64 L.dst, .bool true, .int .i64 L.t1, .int .i64 L.t2, .int .i64 L.t] := by rw [← hW1]; exact (Blk.new w _ _).drewN _
 have x3 : W1.cell? ⟨w.heap.size, 3, none⟩ = some (.int .i64 L.t1) := bx.cell 3
 have x4 : W1.cell? ⟨w.heap.size, 4, none⟩ = some (.int .i64 L.t2) := bx.cell 4
 have x5 : W1.cell? ⟨w.heap.size, 5, none⟩ = some (.int .i64 L.t) := bx.cell 5
 have xp : W1.cell? ⟨g, 2, none⟩ = some (.int .i64 s.p) := (HB1.cell (p := ⟨g, 2, none⟩) kl).trans c2
 have BX := Lib.hid bx
 rw [hW1]
 clear hW1 bx c0 c1 c2 CN CB d1 d2 kf kl2
 go_cut [8, 9] (fun s8 s9 wx => ∃ r, s8 = .pointer (some ⟨r, 0, none⟩) ∧ s9 = .nilIface ∧ W1.heap.size ≤ r ∧ Blk wx r 34 #[.int .i64 lo, .int .i64 hi] ∧ Below W1.heap.size W1 wx)
 case first =>
  go_region_held3 (fun w' => w'.cell? ⟨w.heap.size, 3, none⟩ = some (.int .i64 L.t1) ∧ w'.cell? ⟨w.heap.size, 4, none⟩ = some (.int .i64 L.t2) ∧ w'.cell? ⟨w.heap.size, 5, none⟩ = some (.int .i64 L.t) ∧ w'.cell? ⟨g, 2, none⟩ = some (.int .i64 s.p)) (((repeat' apply And.intro) <;> exact (Below.cell (B := (W1).heap.size) (w := W1) BeL oSo).trans (by assumption))) ((go_at_call 133; (with_reducible refine (CO.out _).mono ?_); rintro e w2 ⟨rfl, hb2⟩; obtain ⟨hc2, hf2⟩ := bcell hb2; have hz2 := hb2.size; (try simp at hz2); (try have := q00_ w w2); (try have := q02_ w w2); (try have := q03_ w w2); (try have := q10_ w w2); (try have := q12_ w w2); (try have := q13_ w w2); (try have := q20_ w w2); (try have := q22_ w w2); (try have := q23_ w w2); (try have := q30_ w w2); (try have := q32_ w w2); (try have := q33_ w w2); (try have := q00_ w1 w2); (try have := q02_ w1 w2); (try have := q10_ w1 w2); (try have := q12_ w1 w2)))
  all_goals
   go_wp2_with fail
   go_meet
   case rel => exact ⟨_, rfl, rfl, by first | omega | (simp; omega), BkD, BeL⟩
 case rest =>
 obtain ⟨r, rfl, rfl, hr, hbr, hB⟩ := hcut
 have HBR := Lib.hid hbr
 have bx2 := BX.out.below hB (by omega)
 have BX2 := Lib.hid bx2
 have hz2 := hB.size
 have HB2 : Below w.heap.size w wc := HB1.trans (hB.mono HB1.size)
 have y0 : wc.cell? ⟨w.heap.size, 0, none⟩ = some (.int .i64 L.src) := bx2.cell 0
 have y4 : wc.cell? ⟨g, 4, none⟩ = some (.map (some mb)) := (HB2.cell (p := ⟨g, 4, none⟩) kl).trans c4
 have hlr := hbr.lt
 have hML := HU.out.mp.lt
 have HM2 := Lib.hid (HU.out.mp.below HB2 hML)
 clear CO x3 x4 x5 xp hbr bx2 hB
 have hz : ∀ W, (zeroValue 223).run Tryz.prog W = .ok (.agg #[.int .i64 0, .int .i64 0, .int .i64 0]) W := fun W => by kernel_rfl
 have HS := Lib.hid (fun W (hb : Below wc.heap.size wc W) => show MapF 3 W mb K (fun x => (s.f x).map Kn.val) ∧ W.cell? ⟨w.heap.size, 0, none⟩ = some (.int .i64 L.src) ∧ W.cell? ⟨g, 4, none⟩ = some (.map (some mb)) from ⟨HM2.out.below hb (by have := HM2.out.lt; exact this), (hb.cell (p := ⟨w.heap.size, 0, none⟩) (by show w.heap.size < _; omega)).trans y0, (hb.cell (p := ⟨g, 4, none⟩) (by show g < _; omega)).trans y4⟩)
 go_wp2_with fail
 go_cut [10, 11] (fun s10 s11 wx => ∃ q, s10 = .pointer (some ⟨q, 0, none⟩) ∧ s11 = .bool true ∧ wc.heap.size ≤ q ∧ Blk wx q 223 #[.int .i64 k.lo, .int .i64 k.hi, .int .i64 k.at_] ∧ Below wc.heap.size wc wx)
 case first =>
  refine wp_region_held_drew (S := fun w9 => MapF 3 w9 mb K (fun x => (s.f x).map Kn.val) ∧ w9.cell? ⟨w.heap.size, 0, none⟩ = some (.int .i64 L.src) ∧ w9.cell? ⟨g, 4, none⟩ = some (.map (some mb))) kRf (⟨HM2.out, y0, y4⟩) (fun hHeld => ?_)
  refine tkH 0 (.pointer (some ⟨g, 0, none⟩)) (some 74) rfl hHeld ?_
  try simp only [Act.put,sI_,sZ_,sS_]
  refine tkH 1 (.pointer (some ⟨g, 0, none⟩)) (some 75) rfl hHeld ?_
  try simp only [Act.put,sI_,sZ_,sS_]
  refine tkH 2 (.pointer (some ⟨g, 4, none⟩)) (some 76) rfl hHeld ?_
  try simp only [Act.put,sI_,sZ_,sS_]
  refine tkG 3 (.map (some mb)) (some 77) rfl (fun w9 hw9 => by (obtain ⟨a0, a1, a2⟩ := hw9; go_simp)) hHeld ?_
  try simp only [Act.put,sI_,sZ_,sS_]
  refine tkH 4 (.pointer (some ⟨w.heap.size, 0, none⟩)) (some 78) rfl hHeld ?_
  try simp only [Act.put,sI_,sZ_,sS_]
  refine tkG 5 (.int .i64 L.src) (some 79) rfl (fun w9 hw9 => by (obtain ⟨a0, a1, a2⟩ := hw9; go_simp)) hHeld ?_
  try simp only [Act.put,sI_,sZ_,sS_]
  refine tkG 6 (.tuple #[.agg #[.int .i64 k.lo, .int .i64 k.hi, .int .i64 k.at_], .bool true]) (some 80) rfl (fun w9 hw9 => by (obtain ⟨a0, a1, a2⟩ := hw9; have hl := a0.look (t := 136) (e := 223) Tryz.underlying3 Tryz.underlying136 (hz _) hx; rw [h7] at hl; simp only [Option.map_none, Option.map_some, Option.getD_none, Option.getD_some, Option.isSome_none, Option.isSome_some, Kn.val] at hl; go_simp)) hHeld ?_
  try simp only [Act.put,sI_,sZ_,sS_]
  refine tkH 7 (.tuple #[.agg #[.int .i64 k.lo, .int .i64 k.hi, .int .i64 k.at_], .bool true]) (some 73) rfl hHeld ?_
  try simp only [Act.put,sI_,sZ_,sS_]
  refine tkH 8 (.agg #[.int .i64 k.lo, .int .i64 k.hi, .int .i64 k.at_]) (some 81) rfl hHeld ?_
  try simp only [Act.put,sI_,sZ_,sS_]
  refine tkH 9 (.bool true) (some 82) rfl hHeld ?_
  try simp only [Act.put,sI_,sZ_,sS_]
  try simp only [Act.put,sI_,sZ_,sS_]
  refine wpAnyH_ready (rs := [10]) kRf (by simp) ?_; refine AllReadyH.cons rfl (fun K hK => ?_) AllReadyH.nil
  go_simp
  refine hK.out _ _ (HS.out _ (by exact BeL)) (fun hHeld2 => ?_); clear hK K hHeld; have hHeld := hHeld2; clear hHeld2
  try simp only [Act.put,sI_,sZ_,sS_]
  refine wpAnyH_ready (rs := [11]) kRf (by simp) ?_; refine AllReadyH.cons rfl (fun K hK => ?_) AllReadyH.nil
  go_simp
  refine hK.out _ _ (HS.out _ (by exact BeL)) (fun hHeld2 => ?_); clear hK K hHeld; have hHeld := hHeld2; clear hHeld2
  try simp only [Act.put,sI_,sZ_,sS_]
  refine tkH 12 (.bool true) (some 11) rfl hHeld ?_
  try simp only [Act.put,sI_,sZ_,sS_]
  refine wpAnyH_done kRf ?_ _
  try simp only [Act.put,sI_,sZ_,sS_]
  (try go_wp2_with fail)
  go_meet
  case rel => exact ⟨wc.heap.size, rfl, rfl, Nat.le_refl _, BkD, BeL⟩
 case rest =>
 obtain ⟨q, rfl, rfl, hq, hbq, hB3⟩ := hcut
 have HBQ := Lib.hid hbq
 have HBR3 := Lib.hid (HBR.out.below hB3 hlr)
 have BX3 := Lib.hid (BX2.out.below hB3 (by omega))
 have HM3 := Lib.hid (HM2.out.below hB3 (by have := HM2.out.lt; exact this))
 have HB3 := HB2.trans (hB3.mono HB2.size)
 have hz3 := hB3.size
 have HB3h := Lib.hid HB3
 clear HS HM2 HBR BX2 hB3 y0 y4 hz HB2 hbq
 obtain ⟨wb, rfl⟩ : ∃ x, x = wc := ⟨_, rfl⟩
 have t0 : wb.cell? ⟨q, 0, none⟩ = some (.int .i64 k.lo) := HBQ.out.cell 0
 have t1 : wb.cell? ⟨q, 1, none⟩ = some (.int .i64 k.hi) := HBQ.out.cell 1
 have t2 : wb.cell? ⟨q, 2, none⟩ = some (.int .i64 k.at_) := HBQ.out.cell 2
 have t3 : wb.cell? ⟨r, 0, none⟩ = some (.int .i64 lo) := HBR3.out.cell 0
 have t4 : wb.cell? ⟨r, 1, none⟩ = some (.int .i64 hi) := HBR3.out.cell 1
 have ql := HBQ.out.lt
 have rl := HBR3.out.lt
 have hzb := HB3.size
 go_wp2_with fail
 go_cut [12, 13] (fun s12 s13 wx => ∃ r2, s12 = .pointer (some ⟨r2, 0, none⟩) ∧ s13 = .bool true ∧ wb.heap.size ≤ r2 ∧ Blk wx r2 34 #[.int .i64 mlo, .int .i64 mhi] ∧ Below wb.heap.size wb wx)
 case first =>
  go_region_held3 (fun w' => w'.cell? ⟨q, 0, none⟩ = some (.int .i64 k.lo) ∧ w'.cell? ⟨q, 1, none⟩ = some (.int .i64 k.hi) ∧ w'.cell? ⟨q, 2, none⟩ = some (.int .i64 k.at_) ∧ w'.cell? ⟨r, 0, none⟩ = some (.int .i64 lo) ∧ w'.cell? ⟨r, 1, none⟩ = some (.int .i64 hi)) (((repeat' apply And.intro) <;> exact (Below.cell (B := (wb).heap.size) (w := wb) BeL oSo).trans (by assumption))) (first | ((go_at_call 134; (with_reducible refine (CC.out _).mono ?_); rintro e w4 ⟨rfl, hb4⟩; obtain ⟨hc4, hf4⟩ := bcell hb4; have hz4 := hb4.size; (try simp at hz4); (try have := q00_ w w4); (try have := q02_ w w4); (try have := q03_ w w4); (try have := q10_ w w4); (try have := q12_ w w4); (try have := q13_ w w4); (try have := q20_ w w4); (try have := q22_ w w4); (try have := q23_ w w4); (try have := q30_ w w4); (try have := q32_ w w4); (try have := q33_ w w4); (try have := q00_ w1 w4); (try have := q02_ w1 w4); (try have := q10_ w1 w4); (try have := q12_ w1 w4); (try have := q00_ w2 w4); (try have := q02_ w2 w4); (try have := q10_ w2 w4); (try have := q12_ w2 w4); (try have := q00_ w3 w4); (try have := q02_ w3 w4); (try have := q10_ w3 w4); (try have := q12_ w3 w4)); (try have := q00_ wb w4); (try have := q00_ wb w3)) | ((go_at_call 135; (with_reducible refine (CA.out _ (HB3h.out.trans ((show Below wb.heap.size wb _ from by exact BeL).mono HB3h.out.size))).mono ?_); rintro e w3 ⟨rfl, hb3⟩; obtain ⟨hc3, hf3⟩ := bcell hb3; have hz3 := hb3.size; (try simp at hz3); (try have := q00_ w w3); (try have := q02_ w w3); (try have := q03_ w w3); (try have := q10_ w w3); (try have := q12_ w w3); (try have := q13_ w w3); (try have := q20_ w w3); (try have := q22_ w w3); (try have := q23_ w w3); (try have := q30_ w w3); (try have := q32_ w w3); (try have := q33_ w w3); (try have := q00_ w1 w3); (try have := q02_ w1 w3); (try have := q10_ w1 w3); (try have := q12_ w1 w3); (try have := q00_ w2 w3); (try have := q02_ w2 w3); (try have := q10_ w2 w3); (try have := q12_ w2 w3)); (try have := q00_ wb w3); (try have := q01_ wb w3)))
  all_goals
   (try go_wp2_with fail)
   go_meet
   case rel => exact ⟨_, rfl, rfl, by first | omega | (simp; omega), BkD, BeL⟩
 case rest =>
 obtain ⟨r2, rfl, rfl, hr2, hbr2, hB4⟩ := hcut
 have w0 : wc.cell? ⟨r2, 0, none⟩ = some (.int .i64 mlo) := hbr2.cell 0
 have w1 : wc.cell? ⟨r2, 1, none⟩ = some (.int .i64 mhi) := hbr2.cell 1
 have BR4 := HBR3.out.below hB4 rl
 have w2 : wc.cell? ⟨r, 0, none⟩ = some (.int .i64 lo) := BR4.cell 0
 have w3 : wc.cell? ⟨r, 1, none⟩ = some (.int .i64 hi) := BR4.cell 1
 have w4 : wc.frozen? ⟨r, 0, none⟩ = false := BR4.fz 0
 have w5 : wc.frozen? ⟨r, 1, none⟩ = false := BR4.fz 1
 have rl2 := hbr2.lt
 have rl4 := BR4.lt
 have hrr : r ≠ r2 := by omega
 have HB4 := Lib.hid (HB3h.out.trans (hB4.mono HB3h.out.size))
 have BG4 := Lib.hid (HU.out.blk.below HB4.out kl)
 have BX4 := Lib.hid (BX3.out.below hB4 (by have := BX3.out.lt; exact this))
 have HM4 := Lib.hid (HM3.out.below hB4 (by have := HM3.out.lt; exact this))
 have v3' : wc.cell? ⟨g, 3, none⟩ = some (.int .i64 s.h) := BG4.out.cell 3
 have vf' : wc.frozen? ⟨g, 3, none⟩ = false := BG4.out.fz 3
 have BR4h := Lib.hid BR4
 clear hB4 hbr2 t0 t1 t2 t3 t4 BX3 HM3 BR4
 have BR9 : Blk ((wc.setCell ⟨r, 0, none⟩ (.int .i64 mlo)).setCell ⟨r, 1, none⟩ (.int .i64 mhi)) r 34 #[.int .i64 mlo, .int .i64 mhi] := ((BR4h.out.set 0 _).set 1 _).conv rfl
 have BG9 : Blk ((wc.setCell ⟨r, 0, none⟩ (.int .i64 mlo)).setCell ⟨r, 1, none⟩ (.int .i64 mhi)) g 138 #[.int .i64 s.id, .int .i64 s.N, .int .i64 s.p, .int .i64 s.h, .map (some mb)] := (BG4.out.far (by show g ≠ r; omega) _).far (by show g ≠ r; omega) _
 have BX9 := (BX4.out.far (p := ⟨r, 0, none⟩) (by show w.heap.size ≠ r; omega) (.int .i64 mlo)).far (p := ⟨r, 1, none⟩) (by show w.heap.size ≠ r; omega) (.int .i64 mhi)
 have HM9 := (HM4.out.far (p := ⟨r, 0, none⟩) (by show mb ≠ r; omega) (.int .i64 mlo)).far (p := ⟨r, 1, none⟩) (by show mb ≠ r; omega) (.int .i64 mhi)
 have HBf : Below w.heap.size w ((wc.setCell ⟨r, 0, none⟩ (.int .i64 mlo)).setCell ⟨r, 1, none⟩ (.int .i64 mhi)) := (HB4.out.setCell (by show w.heap.size ≤ r; omega) _).setCell (by show w.heap.size ≤ r; omega) _
 go_upto_region 17 with fail
 obtain ⟨W9, hW9⟩ : ∃ x, ((wc.setCell ⟨r, 0, none⟩ (.int .i64 mlo)).setCell ⟨r, 1, none⟩ (.int .i64 mhi)) = x := ⟨_, rfl⟩
 rw [hW9] at BR9 BG9 BX9 HM9 HBf ⊢
 have BR9 := Lib.hid BR9
 have BG9 := Lib.hid BG9
 have BX9 := Lib.hid BX9
 have HM9 := Lib.hid HM9
 have hrl9 := BR9.out.lt
 clear hW9 w0 w1 w2 w3 w4 w5 v3' vf' BR4h BG4 BX4 HM4 HBQ HBR3
 have hnr : g ≠ r ∧ w.heap.size ≠ g ∧ mb ≠ g ∧ mb ≠ r ∧ mb ≠ w.heap.size := ⟨by omega, by omega, fun e => HU.out.ne e.symm, by omega, by omega⟩
 obtain ⟨n1, n2, n3, n4, n5⟩ := hnr
 have v0 : W9.cell? ⟨w.heap.size, 0, none⟩ = some (.int .i64 L.src) := BX9.out.cell 0
 have v3 : W9.cell? ⟨g, 3, none⟩ = some (.int .i64 s.h) := BG9.out.cell 3
 have vf : W9.frozen? ⟨g, 3, none⟩ = false := BG9.out.fz 3
 have gl9 : g < W9.heap.size := BG9.out.lt
 go_wp2_with fail
 obtain ⟨V, hV⟩ : ∃ V, W9.setCell ⟨g, 3, none⟩ (.int .i64 here) = V := ⟨_, rfl⟩
 have bg : Blk V g 138 #[.int .i64 s.id, .int .i64 s.N, .int .i64 s.p, .int .i64 here, .map (some mb)] := by rw [← hV]; exact (BG9.out.set 3 _).conv rfl
 have u0 : V.cell? ⟨w.heap.size, 0, none⟩ = some (.int .i64 L.src) := by rw [← hV]; exact (BX9.out.far (by show w.heap.size ≠ g; exact n2) _).cell 0
 have u4 : V.cell? ⟨g, 4, none⟩ = some (.map (some mb)) := bg.cell 4
 have hbr9 : Blk V r 34 #[.int .i64 mlo, .int .i64 mhi] := by rw [← hV]; exact BR9.out.far (by show r ≠ g; exact fun e => n1 e.symm) _
 have u5 : V.cell? ⟨r, 0, none⟩ = some (.int .i64 mlo) := hbr9.cell 0
 have u6 : V.cell? ⟨r, 1, none⟩ = some (.int .i64 mhi) := hbr9.cell 1
 have hm : MapF 3 V mb K (fun x => (s.f x).map Kn.val) := by rw [← hV]; exact HM9.out.far (by show mb ≠ g; exact n3) _
 have hKp : Kept (NMine g mb) w V := by rw [← hV]; exact ((Kept.refl _ w).below HBf).set g 3 _ (.inl (.inl rfl))
 have gV : g < V.heap.size := bg.lt
 have wV : w.heap.size < V.heap.size := by rw [← hV]; simpa using BX9.out.lt
 have rV : r < V.heap.size := hbr9.lt
 rw [hV]
 have HBG := Lib.hid bg
 have HMV := Lib.hid hm
 have HKP := Lib.hid hKp
 clear hV bg hbr9 hm hKp v0 v3 vf gl9 BX9 BG9 BR9 HM9
 refine wp_region_held_drew (S := fun w9 => w9.cell? ⟨w.heap.size, 0, none⟩ = some (.int .i64 L.src) ∧ w9.cell? ⟨g, 4, none⟩ = some (.map (some mb)) ∧ w9.cell? ⟨r, 0, none⟩ = some (.int .i64 mlo) ∧ w9.cell? ⟨r, 1, none⟩ = some (.int .i64 mhi)) kRf (⟨u0, u4, u5, u6⟩) (fun hHeld => ?_)
 refine tkH 0 (.pointer (some ⟨g, 0, none⟩)) (some 101) rfl hHeld ?_
 try simp only [Act.put,sI_,sZ_,sS_]
 refine tkH 1 (.pointer (some ⟨g, 0, none⟩)) (some 102) rfl hHeld ?_
 try simp only [Act.put,sI_,sZ_,sS_]
 refine tkH 2 (.pointer (some ⟨g, 4, none⟩)) (some 103) rfl hHeld ?_
 try simp only [Act.put,sI_,sZ_,sS_]
 refine tkG 3 (.map (some mb)) (some 104) rfl (fun w9 hw9 => by (obtain ⟨a0, a1, a2, a3⟩ := hw9; go_simp)) hHeld ?_
 try simp only [Act.put,sI_,sZ_,sS_]
 refine tkH 4 (.pointer (some ⟨w.heap.size, 0, none⟩)) (some 105) rfl hHeld ?_
 try simp only [Act.put,sI_,sZ_,sS_]
 refine tkG 5 (.int .i64 L.src) (some 106) rfl (fun w9 hw9 => by (obtain ⟨a0, a1, a2, a3⟩ := hw9; go_simp)) hHeld ?_
 try simp only [Act.put,sI_,sZ_,sS_]
 refine tkG 6 (.agg #[.int .i64 mlo, .int .i64 mhi]) (some 107) rfl (fun w9 hw9 => by (obtain ⟨a0, a1, a2, a3⟩ := hw9; go_simp)) hHeld ?_
 try simp only [Act.put,sI_,sZ_,sS_]
 refine tkH 7 (.int .i64 here) (some 108) rfl hHeld ?_
 try simp only [Act.put,sI_,sZ_,sS_]
 refine tkH 8 (.agg #[.int .i64 mlo, .int .i64 mhi, .int .i64 here]) (some 109) rfl hHeld ?_
 try simp only [Act.put,sI_,sZ_,sS_]
 try simp only [Act.put,sI_,sZ_,sS_]
 refine wpAnyH_ready (rs := [9]) kRf (by simp) ?_; refine AllReadyH.cons rfl (fun K hK => ?_) AllReadyH.nil
 refine step_put (k := 3) (t := 136) (e := 223) rfl _ _ _ rfl Tryz.underlying3 Tryz.underlying136 mb _ _ (by simp [Act.eval, Act.put]) (HMV.out.drew) (by unfold maxLen; omega) L.src (.agg #[.int .i64 mlo, .int .i64 mhi, .int .i64 here]) (by simp [Act.eval, Act.put]) (by simp [Act.eval, Act.put]) hx ?_
 intro w8 hm8 hg8
 refine hK.out _ _ (⟨hg8.cell u0 (fun e => n5 (Option.some.inj e).symm), hg8.cell u4 (fun e => n3 (Option.some.inj e).symm), hg8.cell u5 (fun e => n4 (Option.some.inj e).symm), hg8.cell u6 (fun e => n4 (Option.some.inj e).symm)⟩) (fun hHeld2 => ?_); clear hK K hHeld; have hHeld := hHeld2; clear hHeld2
 try simp only [Act.put,sI_,sZ_,sS_]
 refine wpAnyH_done kRf ?_ _
 try simp only [Act.put,sI_,sZ_,sS_]
 go_wp2_with fail
 go_ret2
 refine ⟨rfl, ⟨?_, ?_, HU.out.ne, HO.out⟩, (HKP.out.drew).grown hg8 (fun k e => .inl (.inr (Option.some.inj e).symm))⟩
 ·exact (HBG.out.drew).grown hg8 (fun e => n3 (Option.some.inj e).symm)
 ·have e : (fun x => ((s.learn L.src here mlo mhi).f x).map Kn.val) = fun y => if y = L.src then some (.agg #[.int .i64 mlo, .int .i64 mhi, .int .i64 here]) else (s.f y).map Kn.val := by
   funext y
   show (if y = L.src then some (⟨mlo, mhi, here⟩ : Kn) else s.f y).map Kn.val = _
   by_cases c : y = L.src
   ·rw [if_pos c, if_pos c]; rfl
   ·rw [if_neg c, if_neg c]
  rw [e]
  exact hm8
end Go.Proofs.YtldlandcjegikaaGreatDoor
