/- loops.arcOf, loops.arcs, loops.Room, walked; noonref1.Room. -/
import Derived.Test.YtfjpfkejajgkbaaDoorHLoopP
import Derived.Test.YtfjpfkejajgkbaaDoorHEdge
import Derived.Test.YtfjpfkejajgkbaaDoorHG1
import Derived.Deep.DeepCutAuto
namespace Go.Proofs.YtfjpfkejajgkbaaDoor
open Go.RowKit
set_option linter.unusedVariables false
set_option linter.unusedSimpArgs false
theorem arc_one (z : RArc) : ∀ u ∈ RArc.cells z, u.oneCell' = true := by
  intro u hu
  simp [RArc.cells] at hu
  rcases hu with rfl | rfl | rfl | rfl <;> rfl
theorem arcAt_some {l : List REdge} {s : Int} {a : RArc} (h : stepArc l s = some a) : arcAt l s = a := by unfold arcAt; rw [h]; rfl
theorem arcAt_none {l : List REdge} {s : Int} (h : stepArc l s = none) : arcAt l s = ⟨0, 0, 0, 0⟩ := by unfold arcAt; rw [h]; rfl
theorem infoArc : (Tryd.prog.info? 119).map (fun i => (i.zero, i.size, i.bytes)) = some (some (.agg #[.int .i64 0, .int .i64 0, .int .i64 0, .int .i64 0]), 4, 32) := by kernel_rfl
/-- an arc of a step, and whether there is one. -/
def ArcP (zs : List REdge) (s : Int) (w w' : World) (e : Ending) : Prop :=
  e = .returned (.tuple #[.agg #[.int .i64 (arcAt zs s).step, .int .i64 (arcAt zs s).fr, .int .i64 (arcAt zs s).to, .int .i64 (arcAt zs s).room], .bool (stepArc zs s).isSome]) ∧ Below w.heap.size w w'
set_option maxHeartbeats 4000000 in
theorem loops_arcOf (N : Nat) (A : Option Addr) (n c : Nat) (zs : List REdge) (s : Int) (w : World) (hz : IsRecs w REdge.cells REdge.ok 4 A n c zs) (hl : EdgesOk N zs) (hn : n ≤ 40) (hs : i64B s) :
    Calls Tryd.prog 77 #[.slice A n c, .int .i64 s] w fun e w' => ArcP zs s w w' e := by
  unfold i64B at hs
  have hln := hz.1
  have hm1 := hz.2.1
  have hm2 := hz.2.2.1
  unfold maxLen at hm2
  have no : ∀ w', stepArc zs s = none → Below w.heap.size w w' → ArcP zs s w w' (.returned (.tuple #[.agg #[.int .i64 0, .int .i64 0, .int .i64 0, .int .i64 0], .bool false])) := fun w' h hb => by
    unfold ArcP
    rw [arcAt_none h, h]
    exact ⟨rfl, hb⟩
  have NO := Lib.hid no
  clear no
  by_cases h0 : s = 0 ∨ (zs.length : Int) < s ∨ s < -(zs.length : Int)
  · have hnone := Lib.hid (step_none.2 h0)
    by_cases c1 : s = -9223372036854775808
    · obtain ⟨M, hM⟩ : ∃ M : Int, M = 9223372036854775807 := ⟨_, rfl⟩
      have e1 : IntKind.i64.wrap (-s) = s := by subst c1; decide
      have e2 : IntKind.i64.wrap (s - 1) = M := by subst c1; subst hM; decide
      have h2 : ¬ M < 0 := by omega
      have h3 : (n : Int) ≤ M := by omega
      have h4 : ¬ s < s := by omega
      clear hz hl h0 c1 hM hs
      go_enter Tryd.func77, Tryd.ntmps77
      go_wp2_with fail
      refine bodyPost_ret (v := .tuple #[.agg #[.int .i64 0, .int .i64 0, .int .i64 0, .int .i64 0], .bool false]) (by simp [results, Tryd.results77, go_sem]) rfl ?_
      exact NO.out _ hnone.out (by repeat (first | with_reducible exact Below.refl _ _ | (with_reducible refine Below.alloc ?_ (by first | omega | (simp; done) | (simp; omega)) _) | (with_reducible refine Below.setCell ?_ (by first | omega | (simp; done) | (simp; omega)) _) | (with_reducible refine Below.drew ?_) | (with_reducible refine below_drewN ?_ _) | (with_reducible assumption) | (with_reducible refine bel_step (by with_reducible assumption) ?_ (by first | omega | (simp; done) | (simp; omega)))))
    · rcases h0 with rfl | h0 | h0
      · clear hz hl
        go_enter Tryd.func77, Tryd.ntmps77
        go_wp2_with fail
        refine bodyPost_ret (v := .tuple #[.agg #[.int .i64 0, .int .i64 0, .int .i64 0, .int .i64 0], .bool false]) (by simp [results, Tryd.results77, go_sem]) rfl ?_
        exact NO.out _ hnone.out (by repeat (first | with_reducible exact Below.refl _ _ | (with_reducible refine Below.alloc ?_ (by first | omega | (simp; done) | (simp; omega)) _) | (with_reducible refine Below.setCell ?_ (by first | omega | (simp; done) | (simp; omega)) _) | (with_reducible refine Below.drew ?_) | (with_reducible refine below_drewN ?_ _) | (with_reducible assumption) | (with_reducible refine bel_step (by with_reducible assumption) ?_ (by first | omega | (simp; done) | (simp; omega)))))
      · have h1 : -s < s := by omega
        have h2 : ¬ s - 1 < 0 := by omega
        have h3 : (n : Int) ≤ s - 1 := by omega
        clear hz hl h0
        go_enter Tryd.func77, Tryd.ntmps77
        go_wp2_with fail
        refine bodyPost_ret (v := .tuple #[.agg #[.int .i64 0, .int .i64 0, .int .i64 0, .int .i64 0], .bool false]) (by simp [results, Tryd.results77, go_sem]) rfl ?_
        exact NO.out _ hnone.out (by repeat (first | with_reducible exact Below.refl _ _ | (with_reducible refine Below.alloc ?_ (by first | omega | (simp; done) | (simp; omega)) _) | (with_reducible refine Below.setCell ?_ (by first | omega | (simp; done) | (simp; omega)) _) | (with_reducible refine Below.drew ?_) | (with_reducible refine below_drewN ?_ _) | (with_reducible assumption) | (with_reducible refine bel_step (by with_reducible assumption) ?_ (by first | omega | (simp; done) | (simp; omega)))))
      · have h1 : s < -s := by omega
        have h2 : ¬ -s - 1 < 0 := by omega
        have h3 : (n : Int) ≤ -s - 1 := by omega
        have h4 : -s ≤ 9223372036854775807 := by omega
        clear hz hl h0
        go_enter Tryd.func77, Tryd.ntmps77
        go_wp2_with fail
        refine bodyPost_ret (v := .tuple #[.agg #[.int .i64 0, .int .i64 0, .int .i64 0, .int .i64 0], .bool false]) (by simp [results, Tryd.results77, go_sem]) rfl ?_
        exact NO.out _ hnone.out (by repeat (first | with_reducible exact Below.refl _ _ | (with_reducible refine Below.alloc ?_ (by first | omega | (simp; done) | (simp; omega)) _) | (with_reducible refine Below.setCell ?_ (by first | omega | (simp; done) | (simp; omega)) _) | (with_reducible refine Below.drew ?_) | (with_reducible refine below_drewN ?_ _) | (with_reducible assumption) | (with_reducible refine bel_step (by with_reducible assumption) ?_ (by first | omega | (simp; done) | (simp; omega)))))
  · by_cases c1 : 0 < s
    · obtain ⟨k, rfl⟩ : ∃ k : Nat, s = (k : Int) + 1 := ⟨(s - 1).toNat, by omega⟩
      obtain ⟨z, hzk⟩ : ∃ z, zs[k]? = some z := ⟨_, List.getElem?_eq_getElem (by omega)⟩
      have hst : stepArc zs ((k : Int) + 1) = some (arcF z k) := by rw [stepF, hzk]; rfl
      have Y := Lib.hid (show ∀ w', Below w.heap.size w w' → ArcP zs ((k : Int) + 1) w w' (.returned (.tuple #[.agg #[.int .i64 ((k : Int) + 1), .int .i64 z.a, .int .i64 z.b, .int .i64 z.hi], .bool true])) from fun w' hb => by
        unfold ArcP
        rw [arcAt_some hst, hst]
        exact ⟨rfl, hb⟩)
      obtain ⟨b, off, rfl, hb, hc⟩ := hz.2.2.2.2 (by omega)
      have x0 : w.cell? ⟨b, off + k * 4, none⟩ = _ := hc k z hzk 0 _ rfl
      have x1 := hc k z hzk 1 _ rfl
      have x2 := hc k z hzk 2 _ rfl
      have x3 := hc k z hzk 3 _ rfl
      obtain ⟨za, zb, zl, zh⟩ := z
      have h1 : -((k : Int) + 1) < (k : Int) + 1 := by omega
      have h3 : (0 : Int) ≤ (k : Int) := by omega
      have h2 : (k : Int) < (n : Int) := by omega
      clear hz hl h0 hst hc hzk NO hln
      go_enter Tryd.func77, Tryd.ntmps77
      go_wp2_with fail
      refine bodyPost_ret (v := .tuple #[.agg #[.int .i64 ((k : Int) + 1), .int .i64 za, .int .i64 zb, .int .i64 zh], .bool true]) (by simp [results, Tryd.results77, go_sem]) rfl ?_
      exact Y.out _ (by repeat (first | with_reducible exact Below.refl _ _ | (with_reducible refine Below.alloc ?_ (by first | omega | (simp; done) | (simp; omega)) _) | (with_reducible refine Below.setCell ?_ (by first | omega | (simp; done) | (simp; omega)) _) | (with_reducible refine Below.drew ?_) | (with_reducible refine below_drewN ?_ _) | (with_reducible assumption) | (with_reducible refine bel_step (by with_reducible assumption) ?_ (by first | omega | (simp; done) | (simp; omega)))))
    · obtain ⟨k, rfl⟩ : ∃ k : Nat, s = -((k : Int) + 1) := ⟨(-s - 1).toNat, by omega⟩
      obtain ⟨z, hzk⟩ : ∃ z, zs[k]? = some z := ⟨_, List.getElem?_eq_getElem (by omega)⟩
      have hst : stepArc zs (-((k : Int) + 1)) = some (arcB z k) := by rw [stepB, hzk]; rfl
      have Y := Lib.hid (show ∀ w', Below w.heap.size w w' → ArcP zs (-((k : Int) + 1)) w w' (.returned (.tuple #[.agg #[.int .i64 (-((k : Int) + 1)), .int .i64 z.b, .int .i64 z.a, .int .i64 (-z.lo)], .bool true])) from fun w' hb => by
        unfold ArcP
        rw [arcAt_some hst, hst]
        exact ⟨rfl, hb⟩)
      have hed := hl z (List.mem_of_getElem? hzk)
      unfold edgeB at hed
      obtain ⟨b, off, rfl, hb, hc⟩ := hz.2.2.2.2 (by omega)
      have x0 : w.cell? ⟨b, off + k * 4, none⟩ = _ := hc k z hzk 0 _ rfl
      have x1 := hc k z hzk 1 _ rfl
      have x2 := hc k z hzk 2 _ rfl
      have x3 := hc k z hzk 3 _ rfl
      obtain ⟨za, zb, zl, zh⟩ := z
      simp only [] at hed
      obtain ⟨s, hsd⟩ : ∃ s, -((k : Int) + 1) = s := ⟨_, rfl⟩
      rw [hsd] at Y ⊢
      have hks : (k : Int) = -s - 1 := by omega
      have h1 : s < -s := by omega
      have h2 : -s - 1 < (n : Int) := by omega
      have h3 : 0 ≤ -s - 1 := by omega
      have h4 : (-s - 1).toNat = k := by omega
      have h5 : ¬ 0 < s := by omega
      have h6 : -41 ≤ s := by omega
      have h7 : s ≤ -1 := by omega
      have hl1 := hed.2.2.2.2.2.1
      have hl2 := hed.2.2.2.2.2.2
      have hl3 : zl ≤ 1000000000000 := by omega
      clear hz hl h0 hst hc hzk NO hln hsd hks hed hs c1 hl2
      go_enter Tryd.func77, Tryd.ntmps77
      go_wp2_with fail
      refine bodyPost_ret (v := .tuple #[.agg #[.int .i64 s, .int .i64 zb, .int .i64 za, .int .i64 (-zl)], .bool true]) (by simp [results, Tryd.results77, go_sem]) rfl ?_
      exact Y.out _ (by repeat (first | with_reducible exact Below.refl _ _ | (with_reducible refine Below.alloc ?_ (by first | omega | (simp; done) | (simp; omega)) _) | (with_reducible refine Below.setCell ?_ (by first | omega | (simp; done) | (simp; omega)) _) | (with_reducible refine Below.drew ?_) | (with_reducible refine below_drewN ?_ _) | (with_reducible assumption) | (with_reducible refine bel_step (by with_reducible assumption) ?_ (by first | omega | (simp; done) | (simp; omega)))))
theorem arcs_okr {N : Nat} {zs : List REdge} (hl : EdgesOk N zs) (h6 : N ≤ 6) (hn : zs.length ≤ 40) : ∀ a ∈ arcsL zs, a.ok := by
  intro a ha
  have h1 := arcs_ok hl a ha
  obtain ⟨k, e, h2, h3⟩ := arcsL_mem ha
  have hk := (List.getElem?_eq_some_iff.1 h2).1
  have h4 : a.step = (k : Int) + 1 ∨ a.step = -((k : Int) + 1) := by rcases h3 with rfl | rfl <;> simp [arcF, arcB]
  unfold RArc.ok i64B
  omega
theorem loops_arcOf_some {N : Nat} {A : Option Addr} {n c : Nat} {zs : List REdge} {s : Int} {w : World} {a : RArc} (ha : stepArc zs s = some a) (hz : IsRecs w REdge.cells REdge.ok 4 A n c zs) (hl : EdgesOk N zs) (hn : n ≤ 40) (hs : i64B s) :
    Calls Tryd.prog 77 #[.slice A n c, .int .i64 s] w fun e w' => e = .returned (.tuple #[.agg #[.int .i64 a.step, .int .i64 a.fr, .int .i64 a.to, .int .i64 a.room], .bool true]) ∧ Below w.heap.size w w' :=
  (loops_arcOf N A n c zs s w hz hl hn hs).mono fun e w' h => by
    unfold ArcP at h
    rw [arcAt_some ha, ha] at h
    exact h
theorem loops_arcOf_none {N : Nat} {A : Option Addr} {n c : Nat} {zs : List REdge} {s : Int} {w : World} (ha : stepArc zs s = none) (hz : IsRecs w REdge.cells REdge.ok 4 A n c zs) (hl : EdgesOk N zs) (hn : n ≤ 40) (hs : i64B s) :
    Calls Tryd.prog 77 #[.slice A n c, .int .i64 s] w fun e w' => e = .returned (.tuple #[.agg #[.int .i64 0, .int .i64 0, .int .i64 0, .int .i64 0], .bool false]) ∧ Below w.heap.size w w' :=
  (loops_arcOf N A n c zs s w hz hl hn hs).mono fun e w' h => by
    unfold ArcP at h
    rw [arcAt_none ha, ha] at h
    exact h
set_option maxRecDepth 100000 in
set_option maxHeartbeats 4000000 in
theorem loops_arcs (N : Nat) (A : Option Addr) (n c : Nat) (zs : List REdge) (w : World) (hz : IsRecs w REdge.cells REdge.ok 4 A n c zs) (hl : EdgesOk N zs) (h6 : N ≤ 6) (hn : n ≤ 40) :
    Calls Tryd.prog 49 #[.slice A n c] w fun e w' => ∃ B m d, e = .returned (.slice B m d) ∧ IsRecs w' RArc.cells RArc.ok 4 B m d (arcsL zs) ∧ Below w.heap.size w w' ∧ (∀ b off, B = some ⟨b, off, none⟩ → w.heap.size ≤ b) := by
  obtain ⟨i0, hi, hz0, hz1, hz2⟩ := info_parts infoArc
  have hln := hz.1
  have hm1 := hz.2.1
  have hm2 := hz.2.2.1
  unfold maxLen at hm2
  have HL := Lib.hid hln
  have C := Lib.hid (fun s a w' (hb : Below w.heap.size w w') (hs : i64B s) (ha : stepArc zs s = some a) => loops_arcOf_some ha (hz.below hb) hl hn hs)
  have HO := Lib.hid (arcs_okr hl h6 (by omega))
  clear hz hl hln
  go_enter Tryd.func49, Tryd.ntmps49
  go_wp2_with fail
  go_loopw [2, 10] (fun ov kv wr => ∃ k : Nat, kv = .int .i64 k ∧ k ≤ n ∧ wr.ownsRow w.heap.size 119 4 ov (arcsL (zs.take k)).length ((arcsL (zs.take k)).flatMap RArc.cells) ∧ Below w.heap.size w wr) (fun _ kv _ => n - (intOf kv).toNat)
  case atStart => exact ⟨0, rfl, by omega, own_nil _ _ _ _, Below.refl _ _⟩
  case round =>
    obtain ⟨k, rfl, hk, ho, hB⟩ := hrel
    have hzw := hB.size
    by_cases d1 : k < n
    · obtain ⟨z, hzk⟩ : ∃ z, zs[k]? = some z := ⟨_, List.getElem?_eq_getElem (by have := HL.out; omega)⟩
      have hlen : (arcsL (zs.take k)).length ≤ 80 := by rw [arcsL_len, List.length_take]; omega
      obtain ⟨xs, hxs⟩ : ∃ xs, arcsL (zs.take k) = xs := ⟨_, rfl⟩
      have HX := Lib.hid (show arcsL (zs.take (k + 1)) = (xs ++ [arcF z k]) ++ [arcB z k] by rw [arcsL_take hzk, hxs]; simp)
      rw [hxs] at ho hlen
      have s1 : stepArc zs ((k : Int) + 1) = some (arcF z k) := by rw [stepF, hzk]; rfl
      have s2 : stepArc zs (-(k : Int) - 1) = some (arcB z k) := by rw [show -(k : Int) - 1 = -((k : Int) + 1) by omega, stepB, hzk]; rfl
      have C1 := Lib.hid (fun w' (hb : Below w.heap.size w w') => C.out ((k : Int) + 1) _ w' hb (by unfold i64B; omega) s1)
      have C2 := Lib.hid (fun w' (hb : Below w.heap.size w w') => C.out (-(k : Int) - 1) _ w' hb (by unfold i64B; omega) s2)
      obtain ⟨f1, hf1⟩ : ∃ f, arcF z k = f := ⟨_, rfl⟩
      obtain ⟨f2, hf2⟩ : ∃ f, arcB z k = f := ⟨_, rfl⟩
      rw [hf1, hf2] at HX
      rw [hf1] at C1
      rw [hf2] at C2
      have HO1 := Lib.hid ho
      have HB := Lib.hid hB
      have k0 : (0 : Int) ≤ (k : Int) := by omega
      clear ho hB hxs s1 s2 hzk hf1 hf2
      go_wp2_with fail
      refine wp_loop_rounds 4 ?_
      rw [rounds_succ]
      go_wp2_with fail
      refine (C1.out _ (HB.out.alloc HB.out.size _)).mono ?_
      rintro e w1 ⟨rfl, hb1⟩
      have HB1 := Lib.hid ((HB.out.alloc HB.out.size (.cells #[.int .i64 ((k : Int) + 1), .int .i64 (-(k : Int) - 1)] 3)).trans (hb1.mono (by simp; omega)))
      have HO2 := Lib.hid (own_below (HO1.out.alloc _) hb1)
      have b1 : Blk w1 wr.heap.size 3 #[.int .i64 ((k : Int) + 1), .int .i64 (-(k : Int) - 1)] := (Blk.new wr _ _).below hb1 (by simp)
      have B1 := Lib.hid b1
      have hs1 := HB1.out.size
      clear hb1 b1 HO1 HB
      have x0 := B1.out.cell 0
      have x1 := B1.out.cell 1
      simp at x0 x1
      have xl := B1.out.lt
      go_wp2_with (at_builtin; refine wpList_append_own _ rfl _ _ 116 rfl w.heap.size 119 i0 _ 4 32 Tryd.underlying116 hi hz0 hz1 hz2 rfl (by decide) _ _ _ rfl ((HO2.out.alloc _).alloc _) ⟨w1.heap.size + 1, 0, none⟩ 1 1 _ rfl rfl (cell_newAt (w1.alloc (.cells #[.int .i64 f1.step, .int .i64 f1.fr, .int .i64 f1.to, .int .i64 f1.room] 119)) (RArc.cells f1) _ _ (by simp)) (arc_one _) (by unfold maxLen; omega) (by omega) (by simp; omega) ?_; intro v1 w2 ho2 hg2 _)
      have oo := (HO2.out.alloc (.cells #[.int .i64 f1.step, .int .i64 f1.fr, .int .i64 f1.to, .int .i64 f1.room] 119)).alloc (.cells #[.int .i64 f1.step, .int .i64 f1.fr, .int .i64 f1.to, .int .i64 f1.room] 119)
      have HO3 := Lib.hid (own_snoc RArc.cells (z := f1) ho2)
      have B2 := Lib.hid (own_blk_far oo hg2 ((B1.out.alloc _).alloc _) (by decide))
      have HB2 := Lib.hid (Below.grown (by have := HB1.out; exact (by repeat (first | with_reducible exact Below.refl _ _ | (with_reducible refine Below.alloc ?_ (by first | omega | (simp; done) | (simp; omega)) _) | (with_reducible refine Below.setCell ?_ (by first | omega | (simp; done) | (simp; omega)) _) | (with_reducible refine Below.drew ?_) | (with_reducible refine below_drewN ?_ _) | (with_reducible assumption) | (with_reducible refine bel_step (by with_reducible assumption) ?_ (by first | omega | (simp; done) | (simp; omega)))))) hg2 (by simp; omega) (fun k hk => (oo.lt k hk).1) : Below w.heap.size w w2)
      have hs2 := HB2.out.size
      clear ho2 hg2 oo HO2 B1 HB1 x0 x1 xl
      have x1 := B2.out.cell 1
      simp at x1
      have xl := B2.out.lt
      rw [rounds_succ]
      go_wp2_with fail
      refine (C2.out _ HB2.out).mono ?_
      rintro e w3 ⟨rfl, hb3⟩
      have HB3 := Lib.hid (HB2.out.trans (hb3.mono HB2.out.size))
      have HO4 := Lib.hid (own_below HO3.out hb3)
      have hs3 := HB3.out.size
      have hl3 : (xs ++ [f1]).length ≤ 81 := by simp; omega
      clear hb3 HO3 HB2 x1 xl B2
      go_wp2_with (at_builtin; refine wpList_append_own _ rfl _ _ 116 rfl w.heap.size 119 i0 _ 4 32 Tryd.underlying116 hi hz0 hz1 hz2 rfl (by decide) _ _ _ rfl ((HO4.out.alloc _).alloc _) ⟨w3.heap.size + 1, 0, none⟩ 1 1 _ rfl rfl (cell_newAt (w3.alloc (.cells #[.int .i64 f2.step, .int .i64 f2.fr, .int .i64 f2.to, .int .i64 f2.room] 119)) (RArc.cells f2) _ _ (by simp)) (arc_one _) (by unfold maxLen; omega) (by omega) (by simp; omega) ?_; intro v2 w4 ho4 hg4 _)
      have oo := (HO4.out.alloc (.cells #[.int .i64 f2.step, .int .i64 f2.fr, .int .i64 f2.to, .int .i64 f2.room] 119)).alloc (.cells #[.int .i64 f2.step, .int .i64 f2.fr, .int .i64 f2.to, .int .i64 f2.room] 119)
      have HO5 := Lib.hid (own_snoc RArc.cells (z := f2) ho4)
      have HB4 := Lib.hid (Below.grown (by have := HB3.out; exact (by repeat (first | with_reducible exact Below.refl _ _ | (with_reducible refine Below.alloc ?_ (by first | omega | (simp; done) | (simp; omega)) _) | (with_reducible refine Below.setCell ?_ (by first | omega | (simp; done) | (simp; omega)) _) | (with_reducible refine Below.drew ?_) | (with_reducible refine below_drewN ?_ _) | (with_reducible assumption) | (with_reducible refine bel_step (by with_reducible assumption) ?_ (by first | omega | (simp; done) | (simp; omega)))))) hg4 (by simp; omega) (fun k hk => (oo.lt k hk).1) : Below w.heap.size w w4)
      clear ho4 hg4 oo HO4 HB3
      rw [rounds_succ]
      go_wp2_with fail
      go_roundw
      case rel => exact ⟨k + 1, by go_num, by omega, by rw [HX.out]; exact HO5.out, HB4.out⟩
      case measure => simp [intOf]; omega
    · obtain rfl : k = n := by omega
      have HX := Lib.hid (show arcsL (zs.take k) = arcsL zs by rw [List.take_of_length_le (by have := HL.out; omega)])
      rw [HX.out] at ho
      obtain ⟨B, m, d, rfl, hr⟩ := own_recs RArc.cells RArc.ok 4 (fun _ => rfl) ho HO.out
      have HR := Lib.hid hr
      have HB := Lib.hid hB
      have HLB := Lib.hid (show ∀ b off, B = some ⟨b, off, none⟩ → w.heap.size ≤ b from fun b off e => by subst e; exact (ho.lt b rfl).1)
      clear ho hr hB HX
      go_wp2_with fail
      go_ret
      exact ⟨B, m, d, rfl, HR.out, HB.out, HLB.out⟩
end Go.Proofs.YtfjpfkejajgkbaaDoor
