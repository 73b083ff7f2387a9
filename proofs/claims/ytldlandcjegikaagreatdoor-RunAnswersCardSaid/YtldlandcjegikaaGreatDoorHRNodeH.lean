/- The reference's node: a letter that is heard, walked. -/
import Derived.Test.YtldlandcjegikaaGreatDoorHS1
import Derived.Deep.CutBlock
namespace Go.Proofs.YtldlandcjegikaaGreatDoor
open Go.RowKit
set_option linter.unusedVariables false
set_option linter.unusedSimpArgs false
set_option maxRecDepth 100000 in
set_option maxHeartbeats 8000000 in
theorem rhear_back (M : Nat) (s : NSt) (L : RLetter) (here : Int) (w : World) (h : RNodeAt w M s) (hb : s.backB here = true) :
  Calls Tryz.prog 42 #[.pointer (some ⟨M, 0, none⟩), .agg #[.int .i64 L.src, .int .i64 L.dst, .bool L.answer, .int .i64 L.t1, .int .i64 L.t2, .int .i64 L.t], .int .i64 here] w fun e w' => e = .returned (.tuple #[.bool false, .int .i64 8]) ∧ Below w.heap.size w w' := by
 have CB := Lib.hid (fun w' (hb' : Below w.heap.size w w') => by have := r2_Back M s here w' (h.below hb'); rw [hb] at this; exact this)
 clear h hb
 go_enter Tryz.func42, Tryz.ntmps42
 go_wp2_with fail
 refine (CB.out _ (by exact BeL)).mono ?_
 rintro e w' ⟨rfl, rfl⟩
 go_wp2_with fail
 go_ret2
 exact ⟨rfl, BeL⟩
set_option maxRecDepth 100000 in
set_option maxHeartbeats 8000000 in
theorem rhear_shape (M : Nat) (s : NSt) (L : RLetter) (here : Int) (w : World) (h : RNodeAt w M s) (hb : s.backB here = false) (h1 : L.dst ≠ s.id ∨ L.src = s.id ∨ L.src < 0 ∨ (s.N : Int) ≤ L.src) :
  Calls Tryz.prog 42 #[.pointer (some ⟨M, 0, none⟩), .agg #[.int .i64 L.src, .int .i64 L.dst, .bool L.answer, .int .i64 L.t1, .int .i64 L.t2, .int .i64 L.t], .int .i64 here] w fun e w' => e = .returned (.tuple #[.bool false, .int .i64 3]) ∧ Below w.heap.size w w' := by
 have CB := Lib.hid (fun w' (hb' : Below w.heap.size w w') => by have := r2_Back M s here w' (h.below hb'); rw [hb] at this; exact this)
 have c0 := h.c0
 have c1 := h.c1
 have c2 := h.c2
 have c3 := h.c3
 have kl := h.blk.lt
 have kf := fun o => h.blk.fz o
 have kl2 : M < w.heap.size + 1 := by omega
 have hd : ((L.dst != (s.id : Int)) = true) ∨ ((L.dst != (s.id : Int)) = false ∧ (L.src == (s.id : Int)) = true) ∨ ((L.dst != (s.id : Int)) = false ∧ (L.src == (s.id : Int)) = false ∧ decide (L.src < 0) = true) ∨ ((L.dst != (s.id : Int)) = false ∧ (L.src == (s.id : Int)) = false ∧ decide (L.src < 0) = false ∧ decide ((s.N : Int) ≤ L.src) = true) := by
  by_cases e1 : L.dst = s.id
  ·by_cases e2 : L.src = s.id
   ·right; left; simp [e1, e2]
   ·by_cases e3 : L.src < 0
    ·right; right; left; exact ⟨by simp [e1], by simp; exact e2, decide_eq_true e3⟩
    ·right; right; right; exact ⟨by simp [e1], by simp; exact e2, decide_eq_false e3, decide_eq_true (by omega)⟩
  ·left; simp; exact e1
 clear h hb h1 c2 c3
 rcases hd with d1 | ⟨d1, d2⟩ | ⟨d1, d2, d3⟩ | ⟨d1, d2, d3, d4⟩
 all_goals
  go_enter Tryz.func42, Tryz.ntmps42
  go_wp2_with fail
  refine (CB.out _ (by exact BeL)).mono ?_
  rintro e w' ⟨rfl, rfl⟩
  go_wp2_with fail
  go_quiet (fail)
  go_wp2_with fail
  go_ret2
  exact ⟨rfl, BeL⟩
set_option maxRecDepth 100000 in
set_option maxHeartbeats 8000000 in
theorem rhear_ask (M : Nat) (s : NSt) (L : RLetter) (here : Int) (w : World) (h : RNodeAt w M s) (hb : s.backB here = false) (h1 : L.dst = s.id) (h2 : L.src ≠ s.id) (h3 : 0 ≤ L.src) (h4 : L.src < s.N) (h5 : L.answer = false) :
  Calls Tryz.prog 42 #[.pointer (some ⟨M, 0, none⟩), .agg #[.int .i64 L.src, .int .i64 L.dst, .bool L.answer, .int .i64 L.t1, .int .i64 L.t2, .int .i64 L.t], .int .i64 here] w fun e w' => e = .returned (.tuple #[.bool false, .int .i64 0]) ∧ RNodeAt w' M (s.heard here) ∧ Kept (fun k => k = M) w w' := by
 have CB := Lib.hid (fun w' (hb' : Below w.heap.size w w') => by have := r2_Back M s here w' (h.below hb'); rw [hb] at this; exact this)
 have c0 := h.c0
 have c1 := h.c1
 have c2 := h.c2
 have c3 := h.c3
 have kl := h.blk.lt
 have kf := fun o => h.blk.fz o
 have kl2 : M < w.heap.size + 1 := by omega
 have d1 : (L.dst != (s.id : Int)) = false := by simp; exact h1
 have d2 : (L.src == (s.id : Int)) = false := by simp; exact h2
 have d3 : decide (L.src < 0) = false := decide_eq_false (by omega)
 have d4 : decide ((s.N : Int) ≤ L.src) = false := decide_eq_false (by omega)
 have HU := Lib.hid h
 have HO := Lib.hid (NSt.heard_ok h.ok hb)
 clear h hb h1 h2 h3 h4 c2
 go_enter Tryz.func42, Tryz.ntmps42
 go_wp2_with fail
 refine (CB.out _ (by exact BeL)).mono ?_
 rintro e w' ⟨rfl, rfl⟩
 go_wp2_with fail
 go_quiet (fail)
 go_wp2_with fail
 go_ret2
 refine ⟨rfl, ⟨?_, HO.out⟩, ?_⟩
 ·exact (((HU.out.blk.alloc _).drewN _).set 3 _).conv rfl
 ·exact ((((Kept.refl _ w).alloc _).drewN _).set M 3 _ (.inl rfl))
set_option maxRecDepth 100000 in
set_option maxHeartbeats 8000000 in
theorem rhear_bad (M : Nat) (s : NSt) (L : RLetter) (here : Int) (w : World) (h : RNodeAt w M s) (hb : s.backB here = false) (h1 : L.dst = s.id) (h2 : L.src ≠ s.id) (h3 : 0 ≤ L.src) (h4 : L.src < s.N) (h5 : L.answer = true) (h6 : (offL L here s.p).c ≠ 0) :
  Calls Tryz.prog 42 #[.pointer (some ⟨M, 0, none⟩), .agg #[.int .i64 L.src, .int .i64 L.dst, .bool L.answer, .int .i64 L.t1, .int .i64 L.t2, .int .i64 L.t], .int .i64 here] w fun e w' => e = .returned (.tuple #[.bool false, .int .i64 (offL L here s.p).c]) ∧ Below w.heap.size w w' := by
 have CB := Lib.hid (fun w' (hb' : Below w.heap.size w w') => by have := r2_Back M s here w' (h.below hb'); rw [hb] at this; exact this)
 have c0 := h.c0
 have c1 := h.c1
 have c2 := h.c2
 have c3 := h.c3
 have kl := h.blk.lt
 have kf := fun o => h.blk.fz o
 have kl2 : M < w.heap.size + 1 := by omega
 have d1 : (L.dst != (s.id : Int)) = false := by simp; exact h1
 have d2 : (L.src == (s.id : Int)) = false := by simp; exact h2
 have d3 : decide (L.src < 0) = false := decide_eq_false (by omega)
 have d4 : decide ((s.N : Int) ≤ L.src) = false := decide_eq_false (by omega)
 have CO := Lib.hid (fun w => r1_Offset L.t1 L.t2 L.t here s.p w)
 unfold offL at h6 ⊢
 obtain ⟨cc, hcc⟩ : ∃ v, (offS L.t1 L.t2 L.t here s.p).c = v := ⟨_, rfl⟩
 rw [hcc] at CO h6 ⊢
 have h7 : (cc != 0) = true := by simp; exact h6
 clear h hb h1 h2 h3 h4 h6 hcc
 go_enter Tryz.func42, Tryz.ntmps42
 go_wp2_with fail
 refine (CB.out _ (by exact BeL)).mono ?_
 rintro e w' ⟨rfl, rfl⟩
 go_wp2_with fail
 go_quiet (fail)
 go_wp2_with fail
 obtain ⟨W1, hW1⟩ : ∃ W, ((w.alloc (.cells #[.int .i64 L.src, .int .i64 L.dst, .bool true, .int .i64 L.t1, .int .i64 L.t2, .int .i64 L.t] 110)).drewN nq) = W := ⟨_, rfl⟩
 have HB1 : Below w.heap.size w W1 := by rw [← hW1]; exact BeL
 have hs1 : W1.heap.size = w.heap.size + 1 := by rw [← hW1]; simp
 have bx : Blk W1 w.heap.size 110 #[.int .i64 L.src, .int .i64 L.dst, .bool true, .int .i64 L.t1, .int .i64 L.t2, .int .i64 L.t] := by rw [← hW1]; exact (Blk.new w _ _).drewN _
 have x3 : W1.cell? ⟨w.heap.size, 3, none⟩ = some (.int .i64 L.t1) := bx.cell 3
 have x4 : W1.cell? ⟨w.heap.size, 4, none⟩ = some (.int .i64 L.t2) := bx.cell 4
 have x5 : W1.cell? ⟨w.heap.size, 5, none⟩ = some (.int .i64 L.t) := bx.cell 5
 have xp : W1.cell? ⟨M, 2, none⟩ = some (.int .i64 s.p) := (HB1.cell (p := ⟨M, 2, none⟩) kl).trans c2
 have BX := Lib.hid bx
 rw [hW1]
 clear hW1 bx c0 c1 c2 c3 CB d1 d2 d3 d4 kf kl2
 go_region_held3 (fun w' => w'.cell? ⟨w.heap.size, 3, none⟩ = some (.int .i64 L.t1) ∧ w'.cell? ⟨w.heap.size, 4, none⟩ = some (.int .i64 L.t2) ∧ w'.cell? ⟨w.heap.size, 5, none⟩ = some (.int .i64 L.t) ∧ w'.cell? ⟨M, 2, none⟩ = some (.int .i64 s.p)) (((repeat' apply And.intro) <;> exact (Below.cell (B := (W1).heap.size) (w := W1) BeL oSo).trans (by assumption))) ((go_at_call 78; (with_reducible refine (CO.out _).mono ?_); rintro e w2 ⟨rfl, hb2⟩; obtain ⟨hc2, hf2⟩ := bcell hb2; have hz2 := hb2.size; (try simp at hz2); (try have := q00_ w w2); (try have := q02_ w w2); (try have := q03_ w w2); (try have := q10_ w w2); (try have := q12_ w w2); (try have := q13_ w w2); (try have := q20_ w w2); (try have := q22_ w w2); (try have := q23_ w w2); (try have := q30_ w w2); (try have := q32_ w w2); (try have := q33_ w w2); (try have := q00_ w1 w2); (try have := q02_ w1 w2); (try have := q10_ w1 w2); (try have := q12_ w1 w2)))
 all_goals
  go_wp2_with fail
  go_ret2
  exact ⟨rfl, BeL⟩
set_option maxRecDepth 100000 in
set_option maxHeartbeats 8000000 in
theorem rhear_first (M : Nat) (s : NSt) (L : RLetter) (here : Int) (w : World) (h : RNodeAt w M s) (hb : s.backB here = false) (h1 : L.dst = s.id) (h2 : L.src ≠ s.id) (h3 : 0 ≤ L.src) (h4 : L.src < s.N) (h5 : L.answer = true) (h6 : (offL L here s.p).c = 0) (h7 : s.f L.src = none) :
  Calls Tryz.prog 42 #[.pointer (some ⟨M, 0, none⟩), .agg #[.int .i64 L.src, .int .i64 L.dst, .bool L.answer, .int .i64 L.t1, .int .i64 L.t2, .int .i64 L.t], .int .i64 here] w fun e w' => e = .returned (.tuple #[.bool true, .int .i64 0]) ∧ RNodeAt w' M (s.learn L.src here (offL L here s.p).lo (offL L here s.p).hi) ∧ Kept (fun k => k = M) w w' := by
 have CB := Lib.hid (fun w' (hb' : Below w.heap.size w w') => by have := r2_Back M s here w' (h.below hb'); rw [hb] at this; exact this)
 have c0 := h.c0
 have c1 := h.c1
 have c2 := h.c2
 have c3 := h.c3
 have kl := h.blk.lt
 have kf := fun o => h.blk.fz o
 have kl2 : M < w.heap.size + 1 := by omega
 have d1 : (L.dst != (s.id : Int)) = false := by simp; exact h1
 have d2 : (L.src == (s.id : Int)) = false := by simp; exact h2
 have d3 : decide (L.src < 0) = false := decide_eq_false (by omega)
 have d4 : decide ((s.N : Int) ≤ L.src) = false := decide_eq_false (by omega)
 have hN6 := h.ok.n6
 have HU := Lib.hid h
 obtain ⟨lo, hlo⟩ : ∃ v, (offL L here s.p).lo = v := ⟨_, rfl⟩
 obtain ⟨hi, hhi⟩ : ∃ v, (offL L here s.p).hi = v := ⟨_, rfl⟩
 have CO := Lib.hid (fun w => by have := r1_Offset L.t1 L.t2 L.t here s.p w; unfold offL at h6 hlo hhi; rw [h6, hlo, hhi] at this; exact this)
 rw [hlo, hhi]
 obtain ⟨x, hx⟩ : ∃ x : Nat, L.src = (x : Int) := ⟨L.src.toNat, by omega⟩
 have hx6 : x < 6 := by omega
 have q0 : (0 : Int) ≤ (x : Int) := by omega
 have q1 : (x : Int) < 6 := by omega
 have HX := Lib.hid hx
 have HO := Lib.hid (by have := NSt.learn_ok h.ok hb h2 h3 h4 (offS_right h6); show (s.learn L.src here lo hi).Ok; rw [← hlo, ← hhi]; exact this)
 clear h hb h1 h2 h3 h4 h6 hlo hhi hx
 go_enter Tryz.func42, Tryz.ntmps42
 go_wp2_with fail
 refine (CB.out _ (by exact BeL)).mono ?_
 rintro e w' ⟨rfl, rfl⟩
 go_wp2_with fail
 go_quiet (fail)
 go_wp2_with fail
 obtain ⟨W1, hW1⟩ : ∃ W, ((w.alloc (.cells #[.int .i64 L.src, .int .i64 L.dst, .bool true, .int .i64 L.t1, .int .i64 L.t2, .int .i64 L.t] 110)).drewN nq) = W := ⟨_, rfl⟩
 have HB1 : Below w.heap.size w W1 := by rw [← hW1]; exact BeL
 have hs1 : W1.heap.size = w.heap.size + 1 := by rw [← hW1]; simp
 have bx : Blk W1 w.heap.size 110 #[.int .i64 L.src, .int .i64 L.dst, .bool true, .int .i64 L.t1, .int .i64 L.t2, .int .i64 L.t] := by rw [← hW1]; exact (Blk.new w _ _).drewN _
 have x3 : W1.cell? ⟨w.heap.size, 3, none⟩ = some (.int .i64 L.t1) := bx.cell 3
 have x4 : W1.cell? ⟨w.heap.size, 4, none⟩ = some (.int .i64 L.t2) := bx.cell 4
 have x5 : W1.cell? ⟨w.heap.size, 5, none⟩ = some (.int .i64 L.t) := bx.cell 5
 have xp : W1.cell? ⟨M, 2, none⟩ = some (.int .i64 s.p) := (HB1.cell (p := ⟨M, 2, none⟩) kl).trans c2
 have BX := Lib.hid bx
 rw [hW1]
 clear hW1 bx c0 c1 c2 c3 CB d1 d2 d3 d4 kf kl2
 go_cut [9, 10] (fun s8 s9 wx => ∃ r, s8 = .pointer (some ⟨r, 0, none⟩) ∧ s9 = .int .i64 0 ∧ W1.heap.size ≤ r ∧ Blk wx r 34 #[.int .i64 lo, .int .i64 hi] ∧ Below W1.heap.size W1 wx)
 case first =>
  go_region_held3 (fun w' => w'.cell? ⟨w.heap.size, 3, none⟩ = some (.int .i64 L.t1) ∧ w'.cell? ⟨w.heap.size, 4, none⟩ = some (.int .i64 L.t2) ∧ w'.cell? ⟨w.heap.size, 5, none⟩ = some (.int .i64 L.t) ∧ w'.cell? ⟨M, 2, none⟩ = some (.int .i64 s.p)) (((repeat' apply And.intro) <;> exact (Below.cell (B := (W1).heap.size) (w := W1) BeL oSo).trans (by assumption))) ((go_at_call 78; (with_reducible refine (CO.out _).mono ?_); rintro e w2 ⟨rfl, hb2⟩; obtain ⟨hc2, hf2⟩ := bcell hb2; have hz2 := hb2.size; (try simp at hz2); (try have := q00_ w w2); (try have := q02_ w w2); (try have := q03_ w w2); (try have := q10_ w w2); (try have := q12_ w w2); (try have := q13_ w w2); (try have := q20_ w w2); (try have := q22_ w w2); (try have := q23_ w w2); (try have := q30_ w w2); (try have := q32_ w w2); (try have := q33_ w w2); (try have := q00_ w1 w2); (try have := q02_ w1 w2); (try have := q10_ w1 w2); (try have := q12_ w1 w2)))
  all_goals
   go_wp2_with fail
   go_meet
   case rel => exact ⟨_, rfl, rfl, by first | omega | (simp; omega), BkD, BeL⟩
 case rest =>
 obtain ⟨r, rfl, rfl, hr, hbr, hB⟩ := hcut
 have HBR := Lib.hid hbr
 have bx2 := BX.out.below hB (by omega)
 rw [HX.out] at bx2
 have BX2 := Lib.hid bx2
 have hz2 := hB.size
 have HB2 : Below w.heap.size w wc := HB1.trans (hB.mono HB1.size)
 have HB2h := Lib.hid HB2
 have y0 : wc.cell? ⟨w.heap.size, 0, none⟩ = some (.int .i64 x) := bx2.cell 0
 have yh : wc.cell? ⟨M, 4 + x, none⟩ = some (.bool false) := by have := (HU.out.below HB2).chas hx6; rw [← HX.out, h7] at this; exact this
 have hlr := hbr.lt
 have kl3 : M < wc.heap.size := by omega
 clear CO x3 x4 x5 xp hbr bx2 hB
 go_wp2_with fail
 go_quiet (fail)
 obtain ⟨W9, hW9⟩ : ∃ W, wc.drewN nq = W := ⟨_, rfl⟩
 have BG9 : Blk W9 M 69 (rcells s) := by rw [← hW9]; exact (HU.out.blk.below HB2h.out kl).drewN _
 have BX9 : Blk W9 w.heap.size 110 #[.int .i64 x, .int .i64 L.dst, .bool true, .int .i64 L.t1, .int .i64 L.t2, .int .i64 L.t] := by rw [← hW9]; exact BX2.out.drewN _
 have BR9 : Blk W9 r 34 #[.int .i64 lo, .int .i64 hi] := by rw [← hW9]; exact HBR.out.drewN _
 have HBf : Below w.heap.size w W9 := by rw [← hW9]; exact below_drewN HB2h.out _
 have hrl9 := BR9.lt
 have BG9 := Lib.hid BG9
 have BX9 := Lib.hid BX9
 have BR9 := Lib.hid BR9
 rw [hW9]
 clear hW9 y0 yh HBR BX2
 have hnr : M ≠ r ∧ w.heap.size ≠ M ∧ r ≠ M := ⟨by omega, by omega, by omega⟩
 obtain ⟨n1, n2, n3⟩ := hnr
 have v0 : W9.cell? ⟨w.heap.size, 0, none⟩ = some (.int .i64 x) := BX9.out.cell 0
 have v3 : W9.cell? ⟨M, 3, none⟩ = some (.int .i64 s.h) := BG9.out.cell 3
 have vf : W9.frozen? ⟨M, 3, none⟩ = false := BG9.out.fz 3
 have gl9 : M < W9.heap.size := BG9.out.lt
 go_wp2_with fail
 obtain ⟨V, hV⟩ : ∃ V, W9.setCell ⟨M, 3, none⟩ (.int .i64 here) = V := ⟨_, rfl⟩
 have bg : Blk V M 69 ((rcells s).setIfInBounds 3 (.int .i64 here)) := by rw [← hV]; exact BG9.out.set 3 _
 have bxV : Blk V w.heap.size 110 #[.int .i64 x, .int .i64 L.dst, .bool true, .int .i64 L.t1, .int .i64 L.t2, .int .i64 L.t] := by rw [← hV]; exact BX9.out.far (by show w.heap.size ≠ M; exact n2) _
 have brV : Blk V r 34 #[.int .i64 lo, .int .i64 hi] := by rw [← hV]; exact BR9.out.far (by show r ≠ M; exact n3) _
 have hKp : Kept (fun k => k = M) w V := by rw [← hV]; exact ((Kept.refl _ w).below HBf).set M 3 _ (.inl rfl)
 rw [hV]
 have HKP := Lib.hid hKp
 clear hV hKp v0 v3 vf gl9 BX9 BG9 BR9
 have u0 : V.cell? ⟨w.heap.size, 0, none⟩ = some (.int .i64 x) := bxV.cell 0
 have u1 : V.cell? ⟨M, 4 + x, none⟩ = some (hasV s x) := (bg.cell (4 + x)).trans (rcell_has (s.heard here) hx6)
 have u2 : V.frozen? ⟨M, 4 + x, none⟩ = false := bg.fz _
 have gV : M < V.heap.size := bg.lt
 have wV : w.heap.size < V.heap.size := bxV.lt
 have rV : r < V.heap.size := brV.lt
 have BG := Lib.hid bg
 have BX := Lib.hid bxV
 have BR := Lib.hid brV
 clear bg bxV brV
 go_region
 go_wp2_with fail
 obtain ⟨V1, hV1⟩ : ∃ W, (V.setCell ⟨M, 4 + x, none⟩ (.bool true)).drew = W := ⟨_, rfl⟩
 have bg : Blk V1 M 69 (((rcells s).setIfInBounds 3 (.int .i64 here)).setIfInBounds (4 + x) (.bool true)) := by rw [← hV1]; exact (BG.out.set (4 + x) _).drew
 have bxV : Blk V1 w.heap.size 110 #[.int .i64 x, .int .i64 L.dst, .bool true, .int .i64 L.t1, .int .i64 L.t2, .int .i64 L.t] := by rw [← hV1]; exact (BX.out.far (by show w.heap.size ≠ M; exact n2) _).drew
 have brV : Blk V1 r 34 #[.int .i64 lo, .int .i64 hi] := by rw [← hV1]; exact (BR.out.far (by show r ≠ M; exact n3) _).drew
 have hKp : Kept (fun k => k = M) w V1 := by rw [← hV1]; exact (HKP.out.set M _ _ (.inl rfl)).drew
 rw [hV1]
 have HKP1 := Lib.hid hKp
 clear hV1 hKp u0 u1 u2 gV wV rV BG BX BR HKP
 have u0 : V1.cell? ⟨w.heap.size, 0, none⟩ = some (.int .i64 x) := bxV.cell 0
 have u3 : V1.cell? ⟨r, 0, none⟩ = some (.int .i64 lo) := brV.cell 0
 have u4 : V1.cell? ⟨r, 1, none⟩ = some (.int .i64 hi) := brV.cell 1
 have u5 : V1.cell? ⟨M, 10 + x * 2, none⟩ = some (loV s x) := by
  rw [bg.cell]; rw [Array.getElem?_setIfInBounds_ne (by omega), Array.getElem?_setIfInBounds_ne (by omega)]; exact rcell_lo s hx6
 have u6 : V1.cell? ⟨M, 10 + x * 2 + 1, none⟩ = some (hiV s x) := by
  rw [bg.cell]; rw [Array.getElem?_setIfInBounds_ne (by omega), Array.getElem?_setIfInBounds_ne (by omega)]; exact rcell_hi s hx6
 have u7 : V1.frozen? ⟨M, 10 + x * 2, none⟩ = false := bg.fz _
 have u8 : V1.frozen? ⟨M, 10 + x * 2 + 1, none⟩ = false := bg.fz _
 have gV : M < V1.heap.size := bg.lt
 have wV : w.heap.size < V1.heap.size := bxV.lt
 have rV : r < V1.heap.size := brV.lt
 have BG := Lib.hid bg
 have BX := Lib.hid bxV
 clear bg bxV brV
 go_region
 go_wp2_with fail
 obtain ⟨V2, hV2⟩ : ∃ W, ((V1.setCell ⟨M, 10 + x * 2, none⟩ (.int .i64 lo)).setCell ⟨M, 10 + x * 2 + 1, none⟩ (.int .i64 hi)).drew = W := ⟨_, rfl⟩
 have bg : Blk V2 M 69 (((((rcells s).setIfInBounds 3 (.int .i64 here)).setIfInBounds (4 + x) (.bool true)).setIfInBounds (10 + x * 2) (.int .i64 lo)).setIfInBounds (10 + x * 2 + 1) (.int .i64 hi)) := by rw [← hV2]; exact ((BG.out.set (10 + x * 2) _).set (10 + x * 2 + 1) _).drew
 have bxV : Blk V2 w.heap.size 110 #[.int .i64 x, .int .i64 L.dst, .bool true, .int .i64 L.t1, .int .i64 L.t2, .int .i64 L.t] := by rw [← hV2]; exact ((BX.out.far (by show w.heap.size ≠ M; exact n2) _).far (by show w.heap.size ≠ M; exact n2) _).drew
 have hKp : Kept (fun k => k = M) w V2 := by rw [← hV2]; exact ((HKP1.out.set M _ _ (.inl rfl)).set M _ _ (.inl rfl)).drew
 rw [hV2]
 have HKP2 := Lib.hid hKp
 clear hV2 hKp u0 u3 u4 u5 u6 u7 u8 gV wV rV BG BX HKP1
 have u0 : V2.cell? ⟨w.heap.size, 0, none⟩ = some (.int .i64 x) := bxV.cell 0
 have u5 : V2.cell? ⟨M, 22 + x, none⟩ = some (atV s x) := by
  rw [bg.cell]; rw [Array.getElem?_setIfInBounds_ne (by omega), Array.getElem?_setIfInBounds_ne (by omega), Array.getElem?_setIfInBounds_ne (by omega), Array.getElem?_setIfInBounds_ne (by omega)]; exact rcell_at s hx6
 have u7 : V2.frozen? ⟨M, 22 + x, none⟩ = false := bg.fz _
 have gV : M < V2.heap.size := bg.lt
 have wV : w.heap.size < V2.heap.size := bxV.lt
 have BG := Lib.hid bg
 clear bg bxV
 go_region
 go_wp2_with fail
 go_ret2
 refine ⟨rfl, ⟨?_, HO.out⟩, (HKP2.out.set M _ _ (.inl rfl)).drew⟩
 rw [HX.out, ← rcells_learn s hx6 here lo hi]
 exact (BG.out.set (22 + x) _).drew
set_option maxRecDepth 100000 in
set_option maxHeartbeats 8000000 in
theorem rhear_clash (M : Nat) (s : NSt) (L : RLetter) (here : Int) (w : World) (h : RNodeAt w M s) (k : Kn) (hb : s.backB here = false) (h1 : L.dst = s.id) (h2 : L.src ≠ s.id) (h3 : 0 ≤ L.src) (h4 : L.src < s.N) (h5 : L.answer = true) (h6 : (offL L here s.p).c = 0) (h7 : s.f L.src = some k) (h8 : commonB (ageL k s.p here) (ageH k s.p here) (offL L here s.p).lo (offL L here s.p).hi = false) :
  Calls Tryz.prog 42 #[.pointer (some ⟨M, 0, none⟩), .agg #[.int .i64 L.src, .int .i64 L.dst, .bool L.answer, .int .i64 L.t1, .int .i64 L.t2, .int .i64 L.t], .int .i64 here] w fun e w' => e = .returned (.tuple #[.bool false, .int .i64 7]) ∧ Below w.heap.size w w' := by
 have CB := Lib.hid (fun w' (hb' : Below w.heap.size w w') => by have := r2_Back M s here w' (h.below hb'); rw [hb] at this; exact this)
 have c0 := h.c0
 have c1 := h.c1
 have c2 := h.c2
 have c3 := h.c3
 have kl := h.blk.lt
 have kf := fun o => h.blk.fz o
 have kl2 : M < w.heap.size + 1 := by omega
 have d1 : (L.dst != (s.id : Int)) = false := by simp; exact h1
 have d2 : (L.src == (s.id : Int)) = false := by simp; exact h2
 have d3 : decide (L.src < 0) = false := decide_eq_false (by omega)
 have d4 : decide ((s.N : Int) ≤ L.src) = false := decide_eq_false (by omega)
 have hN6 := h.ok.n6
 have HU := Lib.hid h
 obtain ⟨lo, hlo⟩ : ∃ v, (offL L here s.p).lo = v := ⟨_, rfl⟩
 obtain ⟨hi, hhi⟩ : ∃ v, (offL L here s.p).hi = v := ⟨_, rfl⟩
 have CO := Lib.hid (fun w => by have := r1_Offset L.t1 L.t2 L.t here s.p w; unfold offL at h6 hlo hhi; rw [h6, hlo, hhi] at this; exact this)
 rw [hlo, hhi] at h8
 obtain ⟨x, hx⟩ : ∃ x : Nat, L.src = (x : Int) := ⟨L.src.toNat, by omega⟩
 have hx6 : x < 6 := by omega
 have q0 : (0 : Int) ≤ (x : Int) := by omega
 have q1 : (x : Int) < 6 := by omega
 have HX := Lib.hid hx
 have CA := Lib.hid (fun W (hb' : Below w.heap.size w W) => r2_aged M s x here k W (h.below hb') hx6 (by rw [← hx]; exact h7) hb)
 have CC := Lib.hid (fun W => r1_Meet (ageL k s.p here) (ageH k s.p here) lo hi W)
 obtain ⟨al, hal⟩ : ∃ v, ageL k s.p here = v := ⟨_, rfl⟩
 obtain ⟨ah, hah⟩ : ∃ v, ageH k s.p here = v := ⟨_, rfl⟩
 rw [hal, hah] at CA CC
 rw [hal, hah] at h8
 obtain ⟨cm, hcm⟩ : ∃ v, commonB al ah lo hi = v := ⟨_, rfl⟩
 rw [hcm] at CC h8
 subst h8
 clear hal hah hcm
 clear h hb h1 h2 h3 h4 h6 hlo hhi hx
 go_enter Tryz.func42, Tryz.ntmps42
 go_wp2_with fail
 refine (CB.out _ (by exact BeL)).mono ?_
 rintro e w' ⟨rfl, rfl⟩
 go_wp2_with fail
 go_quiet (fail)
 go_wp2_with fail
 obtain ⟨W1, hW1⟩ : ∃ W, ((w.alloc (.cells #[.int .i64 L.src, .int .i64 L.dst, .bool true, .int .i64 L.t1, .int .i64 L.t2, .int .i64 L.t] 110)).drewN nq) = W := ⟨_, rfl⟩
 have HB1 : Below w.heap.size w W1 := by rw [← hW1]; exact BeL
 have hs1 : W1.heap.size = w.heap.size + 1 := by rw [← hW1]; simp
 have bx : Blk W1 w.heap.size 110 #[.int .i64 L.src, .int .i64 L.dst, .bool true, .int .i64 L.t1, .int .i64 L.t2, .int .i64 L.t] := by rw [← hW1]; exact (Blk.new w _ _).drewN _
 have x3 : W1.cell? ⟨w.heap.size, 3, none⟩ = some (.int .i64 L.t1) := bx.cell 3
 have x4 : W1.cell? ⟨w.heap.size, 4, none⟩ = some (.int .i64 L.t2) := bx.cell 4
 have x5 : W1.cell? ⟨w.heap.size, 5, none⟩ = some (.int .i64 L.t) := bx.cell 5
 have xp : W1.cell? ⟨M, 2, none⟩ = some (.int .i64 s.p) := (HB1.cell (p := ⟨M, 2, none⟩) kl).trans c2
 have BX := Lib.hid bx
 rw [hW1]
 clear hW1 bx c0 c1 c2 c3 CB d1 d2 d3 d4 kf kl2
 go_cut [9, 10] (fun s8 s9 wx => ∃ r, s8 = .pointer (some ⟨r, 0, none⟩) ∧ s9 = .int .i64 0 ∧ W1.heap.size ≤ r ∧ Blk wx r 34 #[.int .i64 lo, .int .i64 hi] ∧ Below W1.heap.size W1 wx)
 case first =>
  go_region_held3 (fun w' => w'.cell? ⟨w.heap.size, 3, none⟩ = some (.int .i64 L.t1) ∧ w'.cell? ⟨w.heap.size, 4, none⟩ = some (.int .i64 L.t2) ∧ w'.cell? ⟨w.heap.size, 5, none⟩ = some (.int .i64 L.t) ∧ w'.cell? ⟨M, 2, none⟩ = some (.int .i64 s.p)) (((repeat' apply And.intro) <;> exact (Below.cell (B := (W1).heap.size) (w := W1) BeL oSo).trans (by assumption))) ((go_at_call 78; (with_reducible refine (CO.out _).mono ?_); rintro e w2 ⟨rfl, hb2⟩; obtain ⟨hc2, hf2⟩ := bcell hb2; have hz2 := hb2.size; (try simp at hz2); (try have := q00_ w w2); (try have := q02_ w w2); (try have := q03_ w w2); (try have := q10_ w w2); (try have := q12_ w w2); (try have := q13_ w w2); (try have := q20_ w w2); (try have := q22_ w w2); (try have := q23_ w w2); (try have := q30_ w w2); (try have := q32_ w w2); (try have := q33_ w w2); (try have := q00_ w1 w2); (try have := q02_ w1 w2); (try have := q10_ w1 w2); (try have := q12_ w1 w2)))
  all_goals
   go_wp2_with fail
   go_meet
   case rel => exact ⟨_, rfl, rfl, by first | omega | (simp; omega), BkD, BeL⟩
 case rest =>
 obtain ⟨r, rfl, rfl, hr, hbr, hB⟩ := hcut
 have HBR := Lib.hid hbr
 have bx2 := BX.out.below hB (by omega)
 rw [HX.out] at bx2
 have BX2 := Lib.hid bx2
 have hz2 := hB.size
 have HB2 : Below w.heap.size w wc := HB1.trans (hB.mono HB1.size)
 have HB2h := Lib.hid HB2
 have y0 : wc.cell? ⟨w.heap.size, 0, none⟩ = some (.int .i64 x) := bx2.cell 0
 have yh : wc.cell? ⟨M, 4 + x, none⟩ = some (.bool true) := by have := (HU.out.below HB2).chas hx6; rw [← HX.out, h7] at this; exact this
 have hlr := hbr.lt
 have kl3 : M < wc.heap.size := by omega
 clear CO x3 x4 x5 xp hbr bx2 hB
 go_wp2_with fail
 go_quiet (fail)
 obtain ⟨wb, hwb⟩ : ∃ W, wc.drewN nq = W := ⟨_, rfl⟩
 have HBX : Below w.heap.size w wb := by rw [← hwb]; exact below_drewN HB2h.out _
 have HBh := Lib.hid HBX
 have bxb : Blk wb w.heap.size 110 #[.int .i64 x, .int .i64 L.dst, .bool true, .int .i64 L.t1, .int .i64 L.t2, .int .i64 L.t] := by rw [← hwb]; exact BX2.out.drewN _
 have brb : Blk wb r 34 #[.int .i64 lo, .int .i64 hi] := by rw [← hwb]; exact HBR.out.drewN _
 rw [hwb]
 have t2 : wb.cell? ⟨w.heap.size, 0, none⟩ = some (.int .i64 x) := bxb.cell 0
 have t3 : wb.cell? ⟨r, 0, none⟩ = some (.int .i64 lo) := brb.cell 0
 have t4 : wb.cell? ⟨r, 1, none⟩ = some (.int .i64 hi) := brb.cell 1
 have ql := bxb.lt
 have rl := brb.lt
 have hzb := HBX.size
 have BXb := Lib.hid bxb
 have BRb := Lib.hid brb
 clear hwb y0 yh HBR BX2 bxb brb HBX
 go_wp2_with fail
 go_cut [11, 12] (fun s12 s13 wx => ∃ r2, s12 = .pointer (some ⟨r2, 0, none⟩) ∧ s13 = .bool false ∧ wb.heap.size ≤ r2 ∧ Blk wx r2 34 #[.int .i64 (max al lo), .int .i64 (min ah hi)] ∧ Below wb.heap.size wb wx)
 case first =>
  go_region_held3 (fun w' => w'.cell? ⟨w.heap.size, 0, none⟩ = some (.int .i64 x) ∧ w'.cell? ⟨r, 0, none⟩ = some (.int .i64 lo) ∧ w'.cell? ⟨r, 1, none⟩ = some (.int .i64 hi)) (((repeat' apply And.intro) <;> exact (Below.cell (B := (wb).heap.size) (w := wb) BeL oSo).trans (by assumption))) (first | ((go_at_call 79; (with_reducible refine (CC.out _).mono ?_); rintro e w4 ⟨rfl, hb4⟩; obtain ⟨hc4, hf4⟩ := bcell hb4; have hz4 := hb4.size; (try simp at hz4); (try have := q00_ w w4); (try have := q02_ w w4); (try have := q03_ w w4); (try have := q10_ w w4); (try have := q12_ w w4); (try have := q13_ w w4); (try have := q20_ w w4); (try have := q22_ w w4); (try have := q23_ w w4); (try have := q30_ w w4); (try have := q32_ w w4); (try have := q33_ w w4); (try have := q00_ w1 w4); (try have := q02_ w1 w4); (try have := q10_ w1 w4); (try have := q12_ w1 w4); (try have := q00_ w2 w4); (try have := q02_ w2 w4); (try have := q10_ w2 w4); (try have := q12_ w2 w4); (try have := q00_ w3 w4); (try have := q02_ w3 w4); (try have := q10_ w3 w4); (try have := q12_ w3 w4)); (try have := q00_ wb w4); (try have := q00_ wb w3)) | ((go_at_call 80; (with_reducible refine (CA.out _ (HBh.out.trans ((show Below wb.heap.size wb _ from by exact BeL).mono HBh.out.size))).mono ?_); rintro e w3 ⟨rfl, hb3⟩; obtain ⟨hc3, hf3⟩ := bcell hb3; have hz3 := hb3.size; (try simp at hz3); (try have := q00_ w w3); (try have := q02_ w w3); (try have := q03_ w w3); (try have := q10_ w w3); (try have := q12_ w w3); (try have := q13_ w w3); (try have := q20_ w w3); (try have := q22_ w w3); (try have := q23_ w w3); (try have := q30_ w w3); (try have := q32_ w w3); (try have := q33_ w w3); (try have := q00_ w1 w3); (try have := q02_ w1 w3); (try have := q10_ w1 w3); (try have := q12_ w1 w3); (try have := q00_ w2 w3); (try have := q02_ w2 w3); (try have := q10_ w2 w3); (try have := q12_ w2 w3)); (try have := q00_ wb w3); (try have := q01_ wb w3)))
  all_goals
   (try go_wp2_with fail)
   go_meet
   case rel => exact ⟨_, rfl, rfl, by first | omega | (simp; omega), BkD, BeL⟩
 case rest =>
 obtain ⟨r2, rfl, rfl, hr2, hbr2, hB4⟩ := hcut
 have w0 : wc.cell? ⟨r2, 0, none⟩ = some (.int .i64 (max al lo)) := hbr2.cell 0
 have w1 : wc.cell? ⟨r2, 1, none⟩ = some (.int .i64 (min ah hi)) := hbr2.cell 1
 have BR4 := BRb.out.below hB4 rl
 have w2 : wc.cell? ⟨r, 0, none⟩ = some (.int .i64 lo) := BR4.cell 0
 have w3 : wc.cell? ⟨r, 1, none⟩ = some (.int .i64 hi) := BR4.cell 1
 have w4 : wc.frozen? ⟨r, 0, none⟩ = false := BR4.fz 0
 have w5 : wc.frozen? ⟨r, 1, none⟩ = false := BR4.fz 1
 have rl2 := hbr2.lt
 have rl4 := BR4.lt
 have hrr : r ≠ r2 := by omega
 have HB4 := Lib.hid (HBh.out.trans (hB4.mono HBh.out.size))
 clear hB4 hbr2 BR4 t2 t3 t4
 go_wp2_with fail
 go_ret2
 exact ⟨rfl, HB4.out⟩
set_option maxRecDepth 100000 in
set_option maxHeartbeats 8000000 in
theorem rhear_more (M : Nat) (s : NSt) (L : RLetter) (here : Int) (w : World) (h : RNodeAt w M s) (k : Kn) (hb : s.backB here = false) (h1 : L.dst = s.id) (h2 : L.src ≠ s.id) (h3 : 0 ≤ L.src) (h4 : L.src < s.N) (h5 : L.answer = true) (h6 : (offL L here s.p).c = 0) (h7 : s.f L.src = some k) (h8 : commonB (ageL k s.p here) (ageH k s.p here) (offL L here s.p).lo (offL L here s.p).hi = true) :
  Calls Tryz.prog 42 #[.pointer (some ⟨M, 0, none⟩), .agg #[.int .i64 L.src, .int .i64 L.dst, .bool L.answer, .int .i64 L.t1, .int .i64 L.t2, .int .i64 L.t], .int .i64 here] w fun e w' => e = .returned (.tuple #[.bool true, .int .i64 0]) ∧ RNodeAt w' M (s.learn L.src here (max (ageL k s.p here) (offL L here s.p).lo) (min (ageH k s.p here) (offL L here s.p).hi)) ∧ Kept (fun k => k = M) w w' := by
 have HO := Lib.hid ((Hears.more k hb h1 h2 h3 h4 h5 h6 h7 h8).ok h.ok)
 have CB := Lib.hid (fun w' (hb' : Below w.heap.size w w') => by have := r2_Back M s here w' (h.below hb'); rw [hb] at this; exact this)
 have c0 := h.c0
 have c1 := h.c1
 have c2 := h.c2
 have c3 := h.c3
 have kl := h.blk.lt
 have kf := fun o => h.blk.fz o
 have kl2 : M < w.heap.size + 1 := by omega
 have d1 : (L.dst != (s.id : Int)) = false := by simp; exact h1
 have d2 : (L.src == (s.id : Int)) = false := by simp; exact h2
 have d3 : decide (L.src < 0) = false := decide_eq_false (by omega)
 have d4 : decide ((s.N : Int) ≤ L.src) = false := decide_eq_false (by omega)
 have hN6 := h.ok.n6
 have HU := Lib.hid h
 obtain ⟨lo, hlo⟩ : ∃ v, (offL L here s.p).lo = v := ⟨_, rfl⟩
 obtain ⟨hi, hhi⟩ : ∃ v, (offL L here s.p).hi = v := ⟨_, rfl⟩
 have CO := Lib.hid (fun w => by have := r1_Offset L.t1 L.t2 L.t here s.p w; unfold offL at h6 hlo hhi; rw [h6, hlo, hhi] at this; exact this)
 rw [hlo, hhi] at h8 HO ⊢
 obtain ⟨x, hx⟩ : ∃ x : Nat, L.src = (x : Int) := ⟨L.src.toNat, by omega⟩
 have hx6 : x < 6 := by omega
 have q0 : (0 : Int) ≤ (x : Int) := by omega
 have q1 : (x : Int) < 6 := by omega
 have HX := Lib.hid hx
 have CA := Lib.hid (fun W (hb' : Below w.heap.size w W) => r2_aged M s x here k W (h.below hb') hx6 (by rw [← hx]; exact h7) hb)
 have CC := Lib.hid (fun W => r1_Meet (ageL k s.p here) (ageH k s.p here) lo hi W)
 obtain ⟨al, hal⟩ : ∃ v, ageL k s.p here = v := ⟨_, rfl⟩
 obtain ⟨ah, hah⟩ : ∃ v, ageH k s.p here = v := ⟨_, rfl⟩
 rw [hal, hah] at CA CC
 rw [hal, hah] at h8 HO ⊢
 obtain ⟨cm, hcm⟩ : ∃ v, commonB al ah lo hi = v := ⟨_, rfl⟩
 rw [hcm] at CC h8
 subst h8
 clear hal hah hcm
 obtain ⟨mlo, hmlo⟩ : ∃ v, max al lo = v := ⟨_, rfl⟩
 obtain ⟨mhi, hmhi⟩ : ∃ v, min ah hi = v := ⟨_, rfl⟩
 rw [hmlo, hmhi] at HO CC ⊢
 clear h hb h1 h2 h3 h4 h6 hlo hhi hx hmlo hmhi
 go_enter Tryz.func42, Tryz.ntmps42
 go_wp2_with fail
 refine (CB.out _ (by exact BeL)).mono ?_
 rintro e w' ⟨rfl, rfl⟩
 go_wp2_with fail
 go_quiet (fail)
 go_wp2_with fail
 obtain ⟨W1, hW1⟩ : ∃ W, ((w.alloc (.cells #[.int .i64 L.src, .int .i64 L.dst, .bool true, .int .i64 L.t1, .int .i64 L.t2, .int .i64 L.t] 110)).drewN nq) = W := ⟨_, rfl⟩
 have HB1 : Below w.heap.size w W1 := by rw [← hW1]; exact BeL
 have hs1 : W1.heap.size = w.heap.size + 1 := by rw [← hW1]; simp
 have bx : Blk W1 w.heap.size 110 #[.int .i64 L.src, .int .i64 L.dst, .bool true, .int .i64 L.t1, .int .i64 L.t2, .int .i64 L.t] := by rw [← hW1]; exact (Blk.new w _ _).drewN _
 have x3 : W1.cell? ⟨w.heap.size, 3, none⟩ = some (.int .i64 L.t1) := bx.cell 3
 have x4 : W1.cell? ⟨w.heap.size, 4, none⟩ = some (.int .i64 L.t2) := bx.cell 4
 have x5 : W1.cell? ⟨w.heap.size, 5, none⟩ = some (.int .i64 L.t) := bx.cell 5
 have xp : W1.cell? ⟨M, 2, none⟩ = some (.int .i64 s.p) := (HB1.cell (p := ⟨M, 2, none⟩) kl).trans c2
 have BX := Lib.hid bx
 rw [hW1]
 clear hW1 bx c0 c1 c2 c3 CB d1 d2 d3 d4 kf kl2
 go_cut [9, 10] (fun s8 s9 wx => ∃ r, s8 = .pointer (some ⟨r, 0, none⟩) ∧ s9 = .int .i64 0 ∧ W1.heap.size ≤ r ∧ Blk wx r 34 #[.int .i64 lo, .int .i64 hi] ∧ Below W1.heap.size W1 wx)
 case first =>
  go_region_held3 (fun w' => w'.cell? ⟨w.heap.size, 3, none⟩ = some (.int .i64 L.t1) ∧ w'.cell? ⟨w.heap.size, 4, none⟩ = some (.int .i64 L.t2) ∧ w'.cell? ⟨w.heap.size, 5, none⟩ = some (.int .i64 L.t) ∧ w'.cell? ⟨M, 2, none⟩ = some (.int .i64 s.p)) (((repeat' apply And.intro) <;> exact (Below.cell (B := (W1).heap.size) (w := W1) BeL oSo).trans (by assumption))) ((go_at_call 78; (with_reducible refine (CO.out _).mono ?_); rintro e w2 ⟨rfl, hb2⟩; obtain ⟨hc2, hf2⟩ := bcell hb2; have hz2 := hb2.size; (try simp at hz2); (try have := q00_ w w2); (try have := q02_ w w2); (try have := q03_ w w2); (try have := q10_ w w2); (try have := q12_ w w2); (try have := q13_ w w2); (try have := q20_ w w2); (try have := q22_ w w2); (try have := q23_ w w2); (try have := q30_ w w2); (try have := q32_ w w2); (try have := q33_ w w2); (try have := q00_ w1 w2); (try have := q02_ w1 w2); (try have := q10_ w1 w2); (try have := q12_ w1 w2)))
  all_goals
   go_wp2_with fail
   go_meet
   case rel => exact ⟨_, rfl, rfl, by first | omega | (simp; omega), BkD, BeL⟩
 case rest =>
 obtain ⟨r, rfl, rfl, hr, hbr, hB⟩ := hcut
 have HBR := Lib.hid hbr
 have bx2 := BX.out.below hB (by omega)
 rw [HX.out] at bx2
 have BX2 := Lib.hid bx2
 have hz2 := hB.size
 have HB2 : Below w.heap.size w wc := HB1.trans (hB.mono HB1.size)
 have HB2h := Lib.hid HB2
 have y0 : wc.cell? ⟨w.heap.size, 0, none⟩ = some (.int .i64 x) := bx2.cell 0
 have yh : wc.cell? ⟨M, 4 + x, none⟩ = some (.bool true) := by have := (HU.out.below HB2).chas hx6; rw [← HX.out, h7] at this; exact this
 have hlr := hbr.lt
 have kl3 : M < wc.heap.size := by omega
 clear CO x3 x4 x5 xp hbr bx2 hB
 go_wp2_with fail
 go_quiet (fail)
 obtain ⟨wb, hwb⟩ : ∃ W, wc.drewN nq = W := ⟨_, rfl⟩
 have HBX : Below w.heap.size w wb := by rw [← hwb]; exact below_drewN HB2h.out _
 have HBh := Lib.hid HBX
 have bxb : Blk wb w.heap.size 110 #[.int .i64 x, .int .i64 L.dst, .bool true, .int .i64 L.t1, .int .i64 L.t2, .int .i64 L.t] := by rw [← hwb]; exact BX2.out.drewN _
 have brb : Blk wb r 34 #[.int .i64 lo, .int .i64 hi] := by rw [← hwb]; exact HBR.out.drewN _
 rw [hwb]
 have t2 : wb.cell? ⟨w.heap.size, 0, none⟩ = some (.int .i64 x) := bxb.cell 0
 have t3 : wb.cell? ⟨r, 0, none⟩ = some (.int .i64 lo) := brb.cell 0
 have t4 : wb.cell? ⟨r, 1, none⟩ = some (.int .i64 hi) := brb.cell 1
 have ql := bxb.lt
 have rl := brb.lt
 have hzb := HBX.size
 have BXb := Lib.hid bxb
 have BRb := Lib.hid brb
 clear hwb y0 yh HBR BX2 bxb brb HBX
 go_wp2_with fail
 go_cut [11, 12] (fun s12 s13 wx => ∃ r2, s12 = .pointer (some ⟨r2, 0, none⟩) ∧ s13 = .bool true ∧ wb.heap.size ≤ r2 ∧ Blk wx r2 34 #[.int .i64 mlo, .int .i64 mhi] ∧ Below wb.heap.size wb wx)
 case first =>
  go_region_held3 (fun w' => w'.cell? ⟨w.heap.size, 0, none⟩ = some (.int .i64 x) ∧ w'.cell? ⟨r, 0, none⟩ = some (.int .i64 lo) ∧ w'.cell? ⟨r, 1, none⟩ = some (.int .i64 hi)) (((repeat' apply And.intro) <;> exact (Below.cell (B := (wb).heap.size) (w := wb) BeL oSo).trans (by assumption))) (first | ((go_at_call 79; (with_reducible refine (CC.out _).mono ?_); rintro e w4 ⟨rfl, hb4⟩; obtain ⟨hc4, hf4⟩ := bcell hb4; have hz4 := hb4.size; (try simp at hz4); (try have := q00_ w w4); (try have := q02_ w w4); (try have := q03_ w w4); (try have := q10_ w w4); (try have := q12_ w w4); (try have := q13_ w w4); (try have := q20_ w w4); (try have := q22_ w w4); (try have := q23_ w w4); (try have := q30_ w w4); (try have := q32_ w w4); (try have := q33_ w w4); (try have := q00_ w1 w4); (try have := q02_ w1 w4); (try have := q10_ w1 w4); (try have := q12_ w1 w4); (try have := q00_ w2 w4); (try have := q02_ w2 w4); (try have := q10_ w2 w4); (try have := q12_ w2 w4); (try have := q00_ w3 w4); (try have := q02_ w3 w4); (try have := q10_ w3 w4); (try have := q12_ w3 w4)); (try have := q00_ wb w4); (try have := q00_ wb w3)) | ((go_at_call 80; (with_reducible refine (CA.out _ (HBh.out.trans ((show Below wb.heap.size wb _ from by exact BeL).mono HBh.out.size))).mono ?_); rintro e w3 ⟨rfl, hb3⟩; obtain ⟨hc3, hf3⟩ := bcell hb3; have hz3 := hb3.size; (try simp at hz3); (try have := q00_ w w3); (try have := q02_ w w3); (try have := q03_ w w3); (try have := q10_ w w3); (try have := q12_ w w3); (try have := q13_ w w3); (try have := q20_ w w3); (try have := q22_ w w3); (try have := q23_ w w3); (try have := q30_ w w3); (try have := q32_ w w3); (try have := q33_ w w3); (try have := q00_ w1 w3); (try have := q02_ w1 w3); (try have := q10_ w1 w3); (try have := q12_ w1 w3); (try have := q00_ w2 w3); (try have := q02_ w2 w3); (try have := q10_ w2 w3); (try have := q12_ w2 w3)); (try have := q00_ wb w3); (try have := q01_ wb w3)))
  all_goals
   (try go_wp2_with fail)
   go_meet
   case rel => exact ⟨_, rfl, rfl, by first | omega | (simp; omega), BkD, BeL⟩
 case rest =>
 obtain ⟨r2, rfl, rfl, hr2, hbr2, hB4⟩ := hcut
 have w0 : wc.cell? ⟨r2, 0, none⟩ = some (.int .i64 mlo) := hbr2.cell 0
 have w1 : wc.cell? ⟨r2, 1, none⟩ = some (.int .i64 mhi) := hbr2.cell 1
 have BR4 := BRb.out.below hB4 rl
 have w2 : wc.cell? ⟨r, 0, none⟩ = some (.int .i64 lo) := BR4.cell 0
 have w3 : wc.cell? ⟨r, 1, none⟩ = some (.int .i64 hi) := BR4.cell 1
 have w4 : wc.frozen? ⟨r, 0, none⟩ = false := BR4.fz 0
 have w5 : wc.frozen? ⟨r, 1, none⟩ = false := BR4.fz 1
 have rl2 := hbr2.lt
 have rl4 := BR4.lt
 have hrr : r ≠ r2 := by omega
 have HB4 := Lib.hid (HBh.out.trans (hB4.mono HBh.out.size))
 have BG4 := Lib.hid (HU.out.blk.below HB4.out kl)
 have BX4 := Lib.hid (BXb.out.below hB4 ql)
 have v3' : wc.cell? ⟨M, 3, none⟩ = some (.int .i64 s.h) := BG4.out.cell 3
 have vf' : wc.frozen? ⟨M, 3, none⟩ = false := BG4.out.fz 3
 have BR4h := Lib.hid BR4
 clear hB4 hbr2 t2 t3 t4 BXb BR4
 have BR9 : Blk ((wc.setCell ⟨r, 0, none⟩ (.int .i64 mlo)).setCell ⟨r, 1, none⟩ (.int .i64 mhi)) r 34 #[.int .i64 mlo, .int .i64 mhi] := ((BR4h.out.set 0 _).set 1 _).conv rfl
 have BG9 : Blk ((wc.setCell ⟨r, 0, none⟩ (.int .i64 mlo)).setCell ⟨r, 1, none⟩ (.int .i64 mhi)) M 69 (rcells s) := (BG4.out.far (by show M ≠ r; omega) _).far (by show M ≠ r; omega) _
 have BX9 := (BX4.out.far (p := ⟨r, 0, none⟩) (by show w.heap.size ≠ r; omega) (.int .i64 mlo)).far (p := ⟨r, 1, none⟩) (by show w.heap.size ≠ r; omega) (.int .i64 mhi)
 have HBf : Below w.heap.size w ((wc.setCell ⟨r, 0, none⟩ (.int .i64 mlo)).setCell ⟨r, 1, none⟩ (.int .i64 mhi)) := (HB4.out.setCell (by show w.heap.size ≤ r; omega) _).setCell (by show w.heap.size ≤ r; omega) _
 go_upto_region 17 with fail
 obtain ⟨W9, hW9⟩ : ∃ x, ((wc.setCell ⟨r, 0, none⟩ (.int .i64 mlo)).setCell ⟨r, 1, none⟩ (.int .i64 mhi)) = x := ⟨_, rfl⟩
 rw [hW9] at BR9 BG9 BX9 HBf ⊢
 have hrl9 := BR9.lt
 have BR9 := Lib.hid BR9
 have BG9 := Lib.hid BG9
 have BX9 := Lib.hid BX9
 clear hW9 w0 w1 w2 w3 w4 w5 v3' vf' BR4h BG4 BX4
 have hnr : M ≠ r ∧ w.heap.size ≠ M ∧ r ≠ M := ⟨by omega, by omega, by omega⟩
 obtain ⟨n1, n2, n3⟩ := hnr
 have v0 : W9.cell? ⟨w.heap.size, 0, none⟩ = some (.int .i64 x) := BX9.out.cell 0
 have v3 : W9.cell? ⟨M, 3, none⟩ = some (.int .i64 s.h) := BG9.out.cell 3
 have vf : W9.frozen? ⟨M, 3, none⟩ = false := BG9.out.fz 3
 have gl9 : M < W9.heap.size := BG9.out.lt
 go_wp2_with fail
 obtain ⟨V, hV⟩ : ∃ V, W9.setCell ⟨M, 3, none⟩ (.int .i64 here) = V := ⟨_, rfl⟩
 have bg : Blk V M 69 ((rcells s).setIfInBounds 3 (.int .i64 here)) := by rw [← hV]; exact BG9.out.set 3 _
 have bxV : Blk V w.heap.size 110 #[.int .i64 x, .int .i64 L.dst, .bool true, .int .i64 L.t1, .int .i64 L.t2, .int .i64 L.t] := by rw [← hV]; exact BX9.out.far (by show w.heap.size ≠ M; exact n2) _
 have brV : Blk V r 34 #[.int .i64 mlo, .int .i64 mhi] := by rw [← hV]; exact BR9.out.far (by show r ≠ M; exact n3) _
 have hKp : Kept (fun k => k = M) w V := by rw [← hV]; exact ((Kept.refl _ w).below HBf).set M 3 _ (.inl rfl)
 rw [hV]
 have HKP := Lib.hid hKp
 clear hV hKp v0 v3 vf gl9 BX9 BG9 BR9
 have u0 : V.cell? ⟨w.heap.size, 0, none⟩ = some (.int .i64 x) := bxV.cell 0
 have u1 : V.cell? ⟨M, 4 + x, none⟩ = some (hasV s x) := (bg.cell (4 + x)).trans (rcell_has (s.heard here) hx6)
 have u2 : V.frozen? ⟨M, 4 + x, none⟩ = false := bg.fz _
 have gV : M < V.heap.size := bg.lt
 have wV : w.heap.size < V.heap.size := bxV.lt
 have rV : r < V.heap.size := brV.lt
 have BG := Lib.hid bg
 have BX := Lib.hid bxV
 have BR := Lib.hid brV
 clear bg bxV brV
 go_region
 go_wp2_with fail
 obtain ⟨V1, hV1⟩ : ∃ W, (V.setCell ⟨M, 4 + x, none⟩ (.bool true)).drew = W := ⟨_, rfl⟩
 have bg : Blk V1 M 69 (((rcells s).setIfInBounds 3 (.int .i64 here)).setIfInBounds (4 + x) (.bool true)) := by rw [← hV1]; exact (BG.out.set (4 + x) _).drew
 have bxV : Blk V1 w.heap.size 110 #[.int .i64 x, .int .i64 L.dst, .bool true, .int .i64 L.t1, .int .i64 L.t2, .int .i64 L.t] := by rw [← hV1]; exact (BX.out.far (by show w.heap.size ≠ M; exact n2) _).drew
 have brV : Blk V1 r 34 #[.int .i64 mlo, .int .i64 mhi] := by rw [← hV1]; exact (BR.out.far (by show r ≠ M; exact n3) _).drew
 have hKp : Kept (fun k => k = M) w V1 := by rw [← hV1]; exact (HKP.out.set M _ _ (.inl rfl)).drew
 rw [hV1]
 have HKP1 := Lib.hid hKp
 clear hV1 hKp u0 u1 u2 gV wV rV BG BX BR HKP
 have u0 : V1.cell? ⟨w.heap.size, 0, none⟩ = some (.int .i64 x) := bxV.cell 0
 have u3 : V1.cell? ⟨r, 0, none⟩ = some (.int .i64 mlo) := brV.cell 0
 have u4 : V1.cell? ⟨r, 1, none⟩ = some (.int .i64 mhi) := brV.cell 1
 have u5 : V1.cell? ⟨M, 10 + x * 2, none⟩ = some (loV s x) := by
  rw [bg.cell]; rw [Array.getElem?_setIfInBounds_ne (by omega), Array.getElem?_setIfInBounds_ne (by omega)]; exact rcell_lo s hx6
 have u6 : V1.cell? ⟨M, 10 + x * 2 + 1, none⟩ = some (hiV s x) := by
  rw [bg.cell]; rw [Array.getElem?_setIfInBounds_ne (by omega), Array.getElem?_setIfInBounds_ne (by omega)]; exact rcell_hi s hx6
 have u7 : V1.frozen? ⟨M, 10 + x * 2, none⟩ = false := bg.fz _
 have u8 : V1.frozen? ⟨M, 10 + x * 2 + 1, none⟩ = false := bg.fz _
 have gV : M < V1.heap.size := bg.lt
 have wV : w.heap.size < V1.heap.size := bxV.lt
 have rV : r < V1.heap.size := brV.lt
 have BG := Lib.hid bg
 have BX := Lib.hid bxV
 clear bg bxV brV
 go_region
 go_wp2_with fail
 obtain ⟨V2, hV2⟩ : ∃ W, ((V1.setCell ⟨M, 10 + x * 2, none⟩ (.int .i64 mlo)).setCell ⟨M, 10 + x * 2 + 1, none⟩ (.int .i64 mhi)).drew = W := ⟨_, rfl⟩
 have bg : Blk V2 M 69 (((((rcells s).setIfInBounds 3 (.int .i64 here)).setIfInBounds (4 + x) (.bool true)).setIfInBounds (10 + x * 2) (.int .i64 mlo)).setIfInBounds (10 + x * 2 + 1) (.int .i64 mhi)) := by rw [← hV2]; exact ((BG.out.set (10 + x * 2) _).set (10 + x * 2 + 1) _).drew
 have bxV : Blk V2 w.heap.size 110 #[.int .i64 x, .int .i64 L.dst, .bool true, .int .i64 L.t1, .int .i64 L.t2, .int .i64 L.t] := by rw [← hV2]; exact ((BX.out.far (by show w.heap.size ≠ M; exact n2) _).far (by show w.heap.size ≠ M; exact n2) _).drew
 have hKp : Kept (fun k => k = M) w V2 := by rw [← hV2]; exact ((HKP1.out.set M _ _ (.inl rfl)).set M _ _ (.inl rfl)).drew
 rw [hV2]
 have HKP2 := Lib.hid hKp
 clear hV2 hKp u0 u3 u4 u5 u6 u7 u8 gV wV rV BG BX HKP1
 have u0 : V2.cell? ⟨w.heap.size, 0, none⟩ = some (.int .i64 x) := bxV.cell 0
 have u5 : V2.cell? ⟨M, 22 + x, none⟩ = some (atV s x) := by
  rw [bg.cell]; rw [Array.getElem?_setIfInBounds_ne (by omega), Array.getElem?_setIfInBounds_ne (by omega), Array.getElem?_setIfInBounds_ne (by omega), Array.getElem?_setIfInBounds_ne (by omega)]; exact rcell_at s hx6
 have u7 : V2.frozen? ⟨M, 22 + x, none⟩ = false := bg.fz _
 have gV : M < V2.heap.size := bg.lt
 have wV : w.heap.size < V2.heap.size := bxV.lt
 have BG := Lib.hid bg
 clear bg bxV
 go_region
 go_wp2_with fail
 go_ret2
 refine ⟨rfl, ⟨?_, HO.out⟩, (HKP2.out.set M _ _ (.inl rfl)).drew⟩
 rw [HX.out, ← rcells_learn s hx6 here mlo mhi]
 exact (BG.out.set (22 + x) _).drew
end Go.Proofs.YtldlandcjegikaaGreatDoor
