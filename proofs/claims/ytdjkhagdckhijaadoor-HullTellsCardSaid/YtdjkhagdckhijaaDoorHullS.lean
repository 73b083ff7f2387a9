/- hull.upper's order of points, and slices.SortFunc by it. -/
import Derived.Shelf.SlSortCmp.WholeK
import Derived.Shelf.SlLaysF0
import Derived.Test.YtdjkhagdckhijaaDoorHullQ
import Derived.Test.YtdjkhagdckhijaaDoorTake
import Derived.Test.YtdjkhagdckhijaaDoorMat2
import Derived.Test.YtdjkhagdckhijaaDoorOwn
namespace Go.Proofs.YtdjkhagdckhijaaDoor
open Go.RowKit Go.Shelf Go.Sort
set_option linter.unusedVariables false
set_option linter.unusedSimpArgs false
def sortHL_ren : Go.Shelf.Ren := ⟨fun | 6 => 25 | 15 => 36 | 14 => 35 | 28 => 50 | 29 => 51 | 20 => 42 | 21 => 43 | 22 => 44 | 23 => 45 | 24 => 46 | 25 => 47 | 26 => 48 | 27 => 49 | 46 => 55 | 47 => 56 | 48 => 57 | 49 => 58 | 50 => 59 | 57 => 60 | n => n, fun | 22 => 27 | 24 => 29 | 25 => 48 | 3 => 3 | 39 => 57 | 0 => 0 | 53 => 81 | 55 => 83 | 4 => 4 | 46 => 74 | 45 => 73 | 50 => 78 | 5 => 5 | 9 => 9 | 66 => 98 | 70 => 102 | 76 => 104 | 77 => 105 | n => n, fun | n => n⟩
theorem sortHL : Go.Proofs.SlLaysF0.n6 Tryd.prog sortHL_ren := {
  mixed := by kernel_rfl
  f6 := ⟨Tryd.f25.name, by decide, Tryd.func25.trans (congrArg some (by kernel_rfl))⟩
  f14 := ⟨Tryd.f35.name, by decide, Tryd.func35.trans (congrArg some (by kernel_rfl))⟩
  f15 := Tryd.func36.trans (congrArg some (by kernel_rfl))
  f20 := ⟨Tryd.f42.name, by decide, Tryd.func42.trans (congrArg some (by kernel_rfl))⟩
  f21 := ⟨Tryd.f43.name, by decide, Tryd.func43.trans (congrArg some (by kernel_rfl))⟩
  f22 := ⟨Tryd.f44.name, by decide, Tryd.func44.trans (congrArg some (by kernel_rfl))⟩
  f23 := ⟨Tryd.f45.name, by decide, Tryd.func45.trans (congrArg some (by kernel_rfl))⟩
  f24 := ⟨Tryd.f46.name, by decide, Tryd.func46.trans (congrArg some (by kernel_rfl))⟩
  f25 := ⟨Tryd.f47.name, by decide, Tryd.func47.trans (congrArg some (by kernel_rfl))⟩
  f26 := ⟨Tryd.f48.name, by decide, Tryd.func48.trans (congrArg some (by kernel_rfl))⟩
  f27 := ⟨Tryd.f49.name, by decide, Tryd.func49.trans (congrArg some (by kernel_rfl))⟩
  f28 := Tryd.func50.trans (congrArg some (by kernel_rfl))
  f29 := Tryd.func51.trans (congrArg some (by kernel_rfl))
  f46 := ⟨Tryd.f55.name, by decide, Tryd.func55.trans (congrArg some (by kernel_rfl))⟩
  f47 := Tryd.func56.trans (congrArg some (by kernel_rfl))
  f48 := Tryd.func57.trans (congrArg some (by kernel_rfl))
  f49 := ⟨Tryd.f58.name, by decide, Tryd.func58.trans (congrArg some (by kernel_rfl))⟩
  f50 := ⟨Tryd.f59.name, by decide, Tryd.func59.trans (congrArg some (by kernel_rfl))⟩
  f57 := ⟨Tryd.f60.name, by decide, Tryd.func60.trans (congrArg some (by kernel_rfl))⟩
  t0 := Tryd.underlying0
  a0 := Tryd.isAgg0
  z0 := Tryd.sizeOf0
  v0 := Tryd.zeroValue0
  t3 := Tryd.underlying3
  a3 := Tryd.isAgg3
  z3 := Tryd.sizeOf3
  v3 := Tryd.zeroValue3
  t4 := Tryd.underlying4
  a4 := Tryd.isAgg4
  z4 := Tryd.sizeOf4
  v4 := Tryd.zeroValue4
  t5 := Tryd.underlying5
  a5 := Tryd.isAgg5
  z5 := Tryd.sizeOf5
  v5 := Tryd.zeroValue5
  t9 := Tryd.underlying9
  a9 := Tryd.isAgg9
  z9 := Tryd.sizeOf9
  v9 := Tryd.zeroValue9
  t22 := Tryd.underlying27
  a22 := Tryd.isAgg27
  z22 := Tryd.sizeOf27
  v22 := Tryd.zeroValue27
  t25 := Tryd.underlying48
  a25 := Tryd.isAgg48
  z25 := Tryd.sizeOf48
  v25 := Tryd.zeroValue48
  t39 := Tryd.underlying57
  a39 := Tryd.isAgg57
  z39 := Tryd.sizeOf57
  v39 := Tryd.zeroValue57
  t45 := Tryd.underlying73
  a45 := Tryd.isAgg73
  z45 := Tryd.sizeOf73
  v45 := Tryd.zeroValue73
  t46 := Tryd.underlying74
  a46 := Tryd.isAgg74
  z46 := Tryd.sizeOf74
  v46 := Tryd.zeroValue74
  t50 := Tryd.underlying78
  a50 := Tryd.isAgg78
  z50 := Tryd.sizeOf78
  v50 := Tryd.zeroValue78
  t53 := Tryd.underlying81
  a53 := Tryd.isAgg81
  z53 := Tryd.sizeOf81
  v53 := Tryd.zeroValue81
  t55 := Tryd.underlying83
  a55 := Tryd.isAgg83
  z55 := Tryd.sizeOf83
  v55 := Tryd.zeroValue83
  t66 := Tryd.underlying98
  a66 := Tryd.isAgg98
  z66 := Tryd.sizeOf98
  v66 := Tryd.zeroValue98
  t70 := Tryd.underlying102
  a70 := Tryd.isAgg102
  z70 := Tryd.sizeOf102
  v70 := Tryd.zeroValue102
  t76 := Tryd.underlying104
  a76 := Tryd.isAgg104
  z76 := Tryd.sizeOf104
  v76 := Tryd.zeroValue104
  t77 := Tryd.underlying105
  a77 := Tryd.isAgg105
  z77 := Tryd.sizeOf105
  v77 := Tryd.zeroValue105 }

instance : Inhabited RPoint := ⟨⟨0, 0⟩⟩
/-- the order of points: by X; of one X the highest first. -/
def ptLt (p q : RPoint) : Int := if Lib.compareInt p.x q.x = 0 then Lib.compareInt q.y p.y else Lib.compareInt p.x q.x
theorem cmpI_ways (x y : Int) : (x < y ∧ Lib.compareInt x y = -1) ∨ (y < x ∧ Lib.compareInt x y = 1) ∨ (x = y ∧ Lib.compareInt x y = 0) := by
  unfold Lib.compareInt
  by_cases h : x < y
  · exact .inl ⟨h, by rw [if_pos h]⟩
  · by_cases h2 : x > y
    · exact .inr (.inl ⟨h2, by rw [if_neg h, if_pos h2]⟩)
    · exact .inr (.inr ⟨by omega, by rw [if_neg h, if_neg h2]⟩)
theorem ptLt_iff (p q : RPoint) : Go.Proofs.ltOf ptLt p q = decide (p.x < q.x ∨ (p.x = q.x ∧ q.y < p.y)) := by
  unfold Go.Proofs.ltOf ptLt
  rcases cmpI_ways p.x q.x with ⟨h, e⟩ | ⟨h, e⟩ | ⟨h, e⟩ <;> rcases cmpI_ways q.y p.y with ⟨g, f⟩ | ⟨g, f⟩ | ⟨g, f⟩ <;> rw [e, f] <;> simp <;> omega
theorem pt_swo : SWO (Go.Proofs.ltOf ptLt) := by
  refine ⟨fun x => ?_, fun x y z h1 h2 => ?_, fun x y z h1 h2 => ?_⟩
  · rw [ptLt_iff]; simp
  · rw [ptLt_iff, decide_eq_true_eq] at *; omega
  · rw [ptLt_iff, decide_eq_false_iff_not] at *; omega
/-- the world grew. -/
def Grew (W w : World) : Prop := ∃ q os, w = grow (W.drewN q) os
theorem Grew.refl (W : World) : Grew W W := ⟨0, #[], by rw [grow_empty]; rfl⟩
theorem Grew.alloc {W w : World} (h : Grew W w) (o : Obj) : Grew W (w.alloc o) := by
  obtain ⟨q, os, rfl⟩ := h
  exact ⟨q, os ++ #[o], by rw [alloc_eq_grow, grow_grow]⟩
theorem Grew.drewN {W w : World} (h : Grew W w) (k : Nat) : Grew W (w.drewN k) := by
  obtain ⟨q, os, rfl⟩ := h
  refine ⟨q + k, os, ?_⟩
  simp [grow, World.drewN, Nat.add_assoc]
theorem Grew.drew {W w : World} (h : Grew W w) : Grew W w.drew := h.drewN 1
theorem cmpI_int (x y : Int) (w : World) :
    Calls Tryd.prog 28 #[.int .i64 x, .int .i64 y] w fun e w' => e = .returned (.int .i64 (Lib.compareInt x y)) ∧ w = w' := by
  rcases (by omega : x < y ∨ (¬ x < y ∧ y < x) ∨ x = y) with h | ⟨h, h'⟩ | h
  · have hc := Lib.hid (show Lib.compareInt x y = -1 by unfold Lib.compareInt; rw [if_pos h])
    go_enter Tryd.func28, Tryd.ntmps28
    go_wp2
    go_ret
    exact ⟨by rw [hc.out]; (try rfl), rfl⟩
  · have hc := Lib.hid (show Lib.compareInt x y = 1 by unfold Lib.compareInt; rw [if_neg h, if_pos h'])
    go_enter Tryd.func28, Tryd.ntmps28
    go_wp2
    go_ret
    exact ⟨by rw [hc.out]; (try rfl), rfl⟩
  · subst h
    have hc := Lib.hid (show Lib.compareInt x x = 0 by unfold Lib.compareInt; simp)
    go_enter Tryd.func28, Tryd.ntmps28
    go_wp2
    go_ret
    exact ⟨by rw [hc.out]; (try rfl), rfl⟩
theorem cmp_or (a b : Int) (g : Nat) (W : World) (x0 : W.cell? ⟨g, 0, none⟩ = some (.int .i64 a)) (x1 : W.cell? ⟨g, 1, none⟩ = some (.int .i64 b)) :
    Calls Tryd.prog 27 #[.slice (some ⟨g, 0, none⟩) 2 2] W fun e w' => e = .returned (.int .i64 (if a = 0 then b else a)) ∧ W = w' := by
  by_cases ha : a = 0
  · subst ha
    by_cases hb : b = 0
    · subst hb
      go_enter Tryd.func27, Tryd.ntmps27
      go_wp2_with fail
      refine wp_loop_rounds 3 ?_
      repeat (rw [rounds_succ]; go_wp2_with fail)
      go_ret
      exact ⟨rfl, rfl⟩
    · have hb' : (b == 0) = false := by simpa using hb
      go_enter Tryd.func27, Tryd.ntmps27
      go_wp2_with fail
      refine wp_loop_rounds 3 ?_
      repeat (rw [rounds_succ]; go_wp2_with fail)
      go_ret
      exact ⟨rfl, rfl⟩
  · have ha' : (a == 0) = false := by simpa using ha
    go_enter Tryd.func27, Tryd.ntmps27
    go_wp2_with fail
    refine wp_loop_rounds 3 ?_
    repeat (rw [rounds_succ]; go_wp2_with fail)
    refine bodyPost_ret (v := .int .i64 a) (by simp [results, Tryd.results27, go_sem]) rfl ?_
    exact ⟨by simp [ha], rfl⟩
set_option maxRecDepth 100000 in
set_option maxHeartbeats 4000000 in
theorem upper_1 (p q : RPoint) (W : World) : Calls Tryd.prog 26 #[.agg #[.int .i64 p.x, .int .i64 p.y], .agg #[.int .i64 q.x, .int .i64 q.y]] W fun e w' => e = .returned (.int .i64 (ptLt p q)) ∧ ∃ q os', w' = grow (W.drewN q) os' := by
  have C1 := Lib.hid (fun w => cmpI_int p.x q.x w)
  have C2 := Lib.hid (fun w => cmpI_int q.y p.y w)
  have HR := Lib.hid (show (if Lib.compareInt p.x q.x = 0 then Lib.compareInt q.y p.y else Lib.compareInt p.x q.x) = ptLt p q from rfl)
  obtain ⟨r1, h1⟩ : ∃ r, Lib.compareInt p.x q.x = r := ⟨_, rfl⟩
  obtain ⟨r2, h2⟩ : ∃ r, Lib.compareInt q.y p.y = r := ⟨_, rfl⟩
  rw [h1] at C1 HR
  rw [h2] at C2 HR
  have CO := Lib.hid (fun g W x0 x1 => cmp_or r1 r2 g W x0 x1)
  rw [HR.out] at CO
  obtain ⟨R, hR⟩ : ∃ R, ptLt p q = R := ⟨_, rfl⟩
  rw [hR] at CO ⊢
  clear HR h1 h2 hR
  go_enter Tryd.func26, Tryd.ntmps26
  go_wp2_with fail
  obtain ⟨w1, hw1⟩ : ∃ w1, (W.alloc (.cells #[.int .i64 p.x, .int .i64 p.y] 29)).alloc (.cells #[.int .i64 q.x, .int .i64 q.y] 29) = w1 := ⟨_, rfl⟩
  have bk1 : Blk w1 W.heap.size 29 #[.int .i64 p.x, .int .i64 p.y] := by rw [← hw1]; exact (Blk.new W _ _).alloc _
  have bk2 : Blk w1 (W.heap.size + 1) 29 #[.int .i64 q.x, .int .i64 q.y] := by rw [← hw1]; exact Blk.newAt2 W _ _ _
  have HG := Lib.hid (show Grew W w1 by rw [← hw1]; exact ((Grew.refl W).alloc _).alloc _)
  have y0 : w1.cell? ⟨W.heap.size, 0, none⟩ = some (.int .i64 p.x) := bk1.cell 0
  have y1 : w1.cell? ⟨W.heap.size, 1, none⟩ = some (.int .i64 p.y) := bk1.cell 1
  have y2 : w1.cell? ⟨W.heap.size + 1, 0, none⟩ = some (.int .i64 q.x) := bk2.cell 0
  have y3 : w1.cell? ⟨W.heap.size + 1, 1, none⟩ = some (.int .i64 q.y) := bk2.cell 1
  have l1 := bk1.lt
  have l2 := bk2.lt
  rw [hw1]
  clear hw1 bk1 bk2
  refine wp_region_held_drew (S := fun w9 => w9.cell? ⟨W.heap.size, 0, none⟩ = some (.int .i64 p.x) ∧ w9.cell? ⟨W.heap.size, 1, none⟩ = some (.int .i64 p.y) ∧ w9.cell? ⟨W.heap.size + 1, 0, none⟩ = some (.int .i64 q.x) ∧ w9.cell? ⟨W.heap.size + 1, 1, none⟩ = some (.int .i64 q.y)) (by kernel_rfl) (⟨y0, y1, y2, y3⟩) (fun hHeld => ?_)
  refine take_d (i := 0) (v := (.pointer (some ⟨W.heap.size, 0, none⟩))) (d := some 5) rfl (by kernel_rfl) (by kernel_rfl) (by kernel_rfl) (by kernel_rfl) (fun _ _ _ h => h) (Or.inl ⟨by kernel_rfl, fun w9 hw9 => by (go_simp)⟩) hHeld ?_
  try simp only [Act.put, List.setIfInBounds_toArray, List.set_cons_zero, List.set_cons_succ]
  refine take_d (i := 1) (v := (.int .i64 p.x)) (d := some 6) rfl (by kernel_rfl) (by kernel_rfl) (by kernel_rfl) (by kernel_rfl) (fun _ _ _ h => h) (Or.inl ⟨by kernel_rfl, fun w9 hw9 => by (obtain ⟨a0, a1, a2, a3⟩ := hw9; go_simp)⟩) hHeld ?_
  try simp only [Act.put, List.setIfInBounds_toArray, List.set_cons_zero, List.set_cons_succ]
  refine take_d (i := 2) (v := (.pointer (some ⟨W.heap.size + 1, 0, none⟩))) (d := some 7) rfl (by kernel_rfl) (by kernel_rfl) (by kernel_rfl) (by kernel_rfl) (fun _ _ _ h => h) (Or.inl ⟨by kernel_rfl, fun w9 hw9 => by (go_simp)⟩) hHeld ?_
  try simp only [Act.put, List.setIfInBounds_toArray, List.set_cons_zero, List.set_cons_succ]
  refine take_d (i := 3) (v := (.int .i64 q.x)) (d := some 8) rfl (by kernel_rfl) (by kernel_rfl) (by kernel_rfl) (by kernel_rfl) (fun _ _ _ h => h) (Or.inl ⟨by kernel_rfl, fun w9 hw9 => by (obtain ⟨a0, a1, a2, a3⟩ := hw9; go_simp)⟩) hHeld ?_
  try simp only [Act.put, List.setIfInBounds_toArray, List.set_cons_zero, List.set_cons_succ]
  refine take_d (i := 5) (v := (.pointer (some ⟨W.heap.size + 1, 1, none⟩))) (d := some 10) rfl (by kernel_rfl) (by kernel_rfl) (by kernel_rfl) (by kernel_rfl) (fun _ _ _ h => h) (Or.inl ⟨by kernel_rfl, fun w9 hw9 => by (go_simp)⟩) hHeld ?_
  try simp only [Act.put, List.setIfInBounds_toArray, List.set_cons_zero, List.set_cons_succ]
  refine take_d (i := 6) (v := (.int .i64 q.y)) (d := some 11) rfl (by kernel_rfl) (by kernel_rfl) (by kernel_rfl) (by kernel_rfl) (fun _ _ _ h => h) (Or.inl ⟨by kernel_rfl, fun w9 hw9 => by (obtain ⟨a0, a1, a2, a3⟩ := hw9; go_simp)⟩) hHeld ?_
  try simp only [Act.put, List.setIfInBounds_toArray, List.set_cons_zero, List.set_cons_succ]
  refine take_d (i := 7) (v := (.pointer (some ⟨W.heap.size, 1, none⟩))) (d := some 12) rfl (by kernel_rfl) (by kernel_rfl) (by kernel_rfl) (by kernel_rfl) (fun _ _ _ h => h) (Or.inl ⟨by kernel_rfl, fun w9 hw9 => by (go_simp)⟩) hHeld ?_
  try simp only [Act.put, List.setIfInBounds_toArray, List.set_cons_zero, List.set_cons_succ]
  refine take_d (i := 8) (v := (.int .i64 p.y)) (d := some 13) rfl (by kernel_rfl) (by kernel_rfl) (by kernel_rfl) (by kernel_rfl) (fun _ _ _ h => h) (Or.inl ⟨by kernel_rfl, fun w9 hw9 => by (obtain ⟨a0, a1, a2, a3⟩ := hw9; go_simp)⟩) hHeld ?_
  try simp only [Act.put, List.setIfInBounds_toArray, List.set_cons_zero, List.set_cons_succ]
  try simp only [Act.put, List.setIfInBounds_toArray, List.set_cons_zero, List.set_cons_succ]
  refine wpAnyH_ready (rs := [4]) (by kernel_rfl) (by simp) ?_
  refine AllReadyH.cons rfl (fun K hK => ?_) AllReadyH.nil
  go_simp
  refine (C1.out _).mono ?_
  rintro e w' ⟨rfl, rfl⟩
  refine hK.out _ _ (⟨y0, y1, y2, y3⟩) (fun hHeld2 => ?_)
  clear hK K hHeld
  have hHeld := hHeld2
  try simp only [Act.put, List.setIfInBounds_toArray, List.set_cons_zero, List.set_cons_succ]
  try simp only [Act.put, List.setIfInBounds_toArray, List.set_cons_zero, List.set_cons_succ]
  refine wpAnyH_ready (rs := [9]) (by kernel_rfl) (by simp) ?_
  refine AllReadyH.cons rfl (fun K hK => ?_) AllReadyH.nil
  go_simp
  refine (C2.out _).mono ?_
  rintro e w' ⟨rfl, rfl⟩
  refine hK.out _ _ (⟨y0, y1, y2, y3⟩) (fun hHeld2 => ?_)
  clear hK K hHeld
  have hHeld := hHeld2
  try simp only [Act.put, List.setIfInBounds_toArray, List.set_cons_zero, List.set_cons_succ]
  refine wpAnyH_ready (rs := [10]) (by kernel_rfl) (by simp) ?_; refine AllReadyH.cons rfl (fun K hK => ?_) AllReadyH.nil
  go_simp
  have hAl : Below w1.heap.size w1 (w1.drew.alloc (.cells #[.int .i64 r1, .int .i64 r2] 3)) := (((Below.refl _ w1).drew).alloc (by simp) _)
  have bk3 : Blk (w1.drew.alloc (.cells #[.int .i64 r1, .int .i64 r2] 3)) w1.heap.size 3 #[.int .i64 r1, .int .i64 r2] := Blk.new w1.drew _ _
  have v0 := bk3.cell 0
  have v1 := bk3.cell 1
  simp at v0 v1
  refine hK.out _ _ (⟨(hAl.cell (p := ⟨W.heap.size, 0, none⟩) l1).trans y0, (hAl.cell (p := ⟨W.heap.size, 1, none⟩) l1).trans y1, (hAl.cell (p := ⟨W.heap.size + 1, 0, none⟩) l2).trans y2, (hAl.cell (p := ⟨W.heap.size + 1, 1, none⟩) l2).trans y3⟩) (fun hHeld2 => ?_); clear hK K hHeld; have hHeld := hHeld2; clear hHeld2
  try simp only [Act.put, List.setIfInBounds_toArray, List.set_cons_zero, List.set_cons_succ]
  try simp only [Act.put, List.setIfInBounds_toArray, List.set_cons_zero, List.set_cons_succ]
  refine wpAnyH_ready (rs := [11]) (by kernel_rfl) (by simp) ?_
  refine AllReadyH.cons rfl (fun K hK => ?_) AllReadyH.nil
  go_simp
  refine (CO.out w1.heap.size _ v0 v1).mono ?_
  rintro e w' ⟨rfl, rfl⟩
  refine hK.out _ _ (hHeld) (fun hHeld2 => ?_)
  clear hK K hHeld
  have hHeld := hHeld2
  try simp only [Act.put, List.setIfInBounds_toArray, List.set_cons_zero, List.set_cons_succ]
  refine take_d (i := 12) (v := (.int .i64 R)) (d := some 4) rfl (by kernel_rfl) (by kernel_rfl) (by kernel_rfl) (by kernel_rfl) (fun _ _ _ h => h) (Or.inl ⟨by kernel_rfl, fun w9 hw9 => by (go_simp)⟩) hHeld ?_
  try simp only [Act.put, List.setIfInBounds_toArray, List.set_cons_zero, List.set_cons_succ]
  refine wpAnyH_done (by kernel_rfl) ?_ _
  try simp only [Act.put, List.setIfInBounds_toArray, List.set_cons_zero, List.set_cons_succ]
  go_wp2_with fail
  refine bodyPost_ret (v := .int .i64 R) (by simp [results, Tryd.results26, go_sem]) rfl ?_
  obtain ⟨n, os, h⟩ := ((HG.out.alloc (.cells #[.int .i64 r1, .int .i64 r2] 3))).drew
  exact ⟨rfl, n, os, h⟩
theorem upper_lays (blk off size : Nat) (w : World) : CmpLays Tryd.prog 26 #[] RPoint.cells 2 ptLt blk off size w :=
  fun _ _ _ _ x y => upper_1 x y _
theorem permP_all {d d' : Array RPoint} (h : PermIn 0 d.size d d') : d'.toList.Perm d.toList := by
  obtain ⟨h1, _, h3⟩ := h
  have e1 : d'.extract 0 d.size = d' := by rw [← h1]; exact Array.extract_size
  have e2 : d.extract 0 d.size = d := Array.extract_size
  rwa [e1, e2] at h3
theorem sortedP_all {d : Array RPoint} (h : SortedIn (Go.Proofs.ltOf ptLt) 0 d.size d) : OrdX d.toList := by
  unfold OrdX
  rw [List.pairwise_iff_getElem]
  intro i j hi hj hij
  have hi' : i < d.size := by simpa using hi
  have hj' : j < d.size := by simpa using hj
  have := h i j (Nat.zero_le _) hij hj'
  rw [ptLt_iff, decide_eq_false_iff_not, getElem!_pos d j hj', getElem!_pos d i hi'] at this
  simp only [Array.getElem_toList]
  omega
theorem sort_points (zs : List RPoint) (g cap : Nat) (W : World) (cur : Array Value) (T : TypeId) (hB : Blk W g T cur) (hH : HoldsK RPoint.cells 2 W g 0 zs.toArray) (hg : g < W.heap.size) (hsz : zs.length < 4611686018427387904) :
    Calls Tryd.prog 25 #[.slice (some ⟨g, 0, none⟩) zs.length cap, .func (.func 26) #[] #[]] W fun e w' =>
      e = .returned (.tuple #[]) ∧ ∃ es : List RPoint, es.Perm zs ∧ OrdX es ∧ (∀ i z, es[i]? = some z → w'.cell? ⟨g, i * 2, none⟩ = some (.int .i64 z.x) ∧ w'.cell? ⟨g, i * 2 + 1, none⟩ = some (.int .i64 z.y)) ∧ W.grownBy w' (some g) ∧ ∃ cur', Blk w' g T cur' ∧ cur'.size = cur.size := by
  have eg : ∀ args w, (callFunc 26 args).run Tryd.prog w = .ok (.enter 26 args) w := enters_of Tryd.func26 (by kernel_rfl) rfl
  have hcon := AnyQ.slices_SortFunc sortHL 2 Tryd.isAgg29 Tryd.sizeOf29 RPoint.cells (fun _ => rfl) (fun x v hv => by simp [RPoint.cells] at hv; rcases hv with rfl | rfl <;> rfl) ptLt pt_swo 26 #[] g 0 cap zs.toArray W eg (upper_lays g 0 _ W) hH hg (by simpa using hsz)
  have h2 : Calls Tryd.prog 25 #[.slice (some ⟨g, 0, none⟩) zs.length cap, .func (.func 26) #[] #[]] W _ := hcon
  refine h2.mono ?_
  rintro e w' ⟨rfl, d', n, os, hp, hs, rfl⟩
  have hsd : d'.size = zs.toArray.size := hp.1
  have hh := holdsK_sortWorldK RPoint.cells 2 W g 0 n zs.toArray d' os hg hH hsd
  refine ⟨rfl, d'.toList, by simpa using permP_all hp, sortedP_all (by rw [hsd]; exact hs), fun i z hz => ?_, ?_, ?_⟩
  · have hi : i < d'.size := by have := (List.getElem?_eq_some_iff.1 hz).1; simpa using this
    have hz2 : d'[i]! = z := by
      rw [getElem!_pos d' i hi]
      have := (List.getElem?_eq_some_iff.1 hz).2
      simpa using this
    have c0 := (hh.cell hi (c := 0) (by omega)).1
    have c1 := (hh.cell hi (c := 1) (by omega)).1
    rw [hz2] at c0 c1
    exact ⟨by simpa [RPoint.cells] using c0, by simpa [RPoint.cells] using c1⟩
  · unfold sortWorldK putRowK
    refine ⟨rfl, rfl, rfl, by simp, fun k hk hne => ?_⟩
    rw [heap_grow_old _ _ (by simpa using hk)]
    have : g ≠ k := fun e => hne (by rw [e])
    simp [putRow, mapBlock, Sort.ahead, Array.getElem?_modify, this]
  · unfold sortWorldK putRowK
    have hbb : W.heap[g]? = some (.cells cur T (0, 0)) := hB
    refine ⟨putCells id 0 (flatK RPoint.cells 2 d') cur, ?_, by simp [putCells]⟩
    unfold Blk
    rw [heap_grow_old _ _ (by simpa using hg)]
    simp [putRow, mapBlock, Sort.ahead, Array.getElem?_modify, hbb, onCells]
end Go.Proofs.YtdjkhagdckhijaaDoor
