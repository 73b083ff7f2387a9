/- noonref1.Flip, noonref1.Upper and hull.Lower, walked. -/
import Derived.Test.YtdjkhagdckhijaaDoorHullR
import Derived.Test.YtdjkhagdckhijaaDoorApp
namespace Go.Proofs.YtdjkhagdckhijaaDoor
open Go.RowKit
set_option linter.unusedVariables false
set_option linter.unusedSimpArgs false
theorem take_mapP_snoc {zs : List RPoint} {i : Nat} {z : RPoint} (h : zs[i]? = some z) : (zs.map flipP).take (i + 1) = (zs.map flipP).take i ++ [flipP z] := by
  rw [List.take_add_one, List.getElem?_map, h]; rfl
theorem flipP_ptB {z : RPoint} (h : ptB z = true) : ptB (flipP z) = true := by rw [← flipW_P h, flipW_ptB]; exact h
theorem recs_take {w : World} {q n c k : Nat} {S : List RPoint} (h : IsRecs w RPoint.cells RPoint.ok 2 (some ⟨q, 0, none⟩) n c S) (hk : k ≤ n) : IsRecs w RPoint.cells RPoint.ok 2 (some ⟨q, 0, none⟩) k c (S.take k) := by
  obtain ⟨h1, h2, h3, h4, h5⟩ := h
  refine ⟨by rw [List.length_take]; omega, by omega, h3, fun z hz => h4 z (List.mem_of_mem_take hz), fun h0 => ?_⟩
  obtain ⟨b, off, e, hb, hc⟩ := h5 (by omega)
  exact ⟨b, off, e, hb, fun i z hz => hc i z (by
    have := (List.getElem?_eq_some_iff.1 hz).1
    rw [List.length_take] at this
    rwa [List.getElem?_take_of_lt (by omega)] at hz)⟩
theorem recs_drop {w : World} {q n c k : Nat} {S : List RPoint} (h : IsRecs w RPoint.cells RPoint.ok 2 (some ⟨q, 0, none⟩) n c S) (hk : k ≤ n) : IsRecs w RPoint.cells RPoint.ok 2 (some ⟨q, k * 2, none⟩) (n - k) (c - k) (S.drop k) := by
  obtain ⟨h1, h2, h3, h4, h5⟩ := h
  refine ⟨by rw [List.length_drop]; omega, by omega, by omega, fun z hz => h4 z (List.mem_of_mem_drop hz), fun h0 => ?_⟩
  obtain ⟨b, off, e, hb, hc⟩ := h5 (by omega)
  obtain ⟨rfl, rfl⟩ : q = b ∧ 0 = off := by simp only [Option.some.injEq, Addr.mk.injEq] at e; exact ⟨e.1, e.2.1⟩
  refine ⟨q, k * 2, rfl, hb, fun i z hz j u hu => ?_⟩
  rw [List.getElem?_drop] at hz
  have := hc (k + i) z hz j u hu
  rw [show k * 2 + i * 2 + j = 0 + (k + i) * 2 + j by omega]
  exact this
theorem own_weakP {w : World} {B B' : Nat} {T : TypeId} {k n : Nat} {v : Value} {xs : List Value} (h : w.ownsRow B' T k v n xs) (hb : B ≤ B') : w.ownsRow B T k v n xs := by
  obtain ⟨h1, h2⟩ := h
  refine ⟨h1, ?_⟩
  rcases h2 with h2 | ⟨g, cap, cur, e, hg, h3⟩
  · exact .inl h2
  · exact .inr ⟨g, cap, cur, e, by omega, h3⟩
set_option maxRecDepth 100000 in
set_option maxHeartbeats 4000000 in
theorem r1_Flip (A : Option Addr) (n c : Nat) (zs : List RPoint) (w : World) (h : IsRecs w RPoint.cells RPoint.ok 2 A n c zs) (h60 : n ≤ 60) (hb : ∀ z ∈ zs, ptB z = true) :
    Calls Tryd.prog 12 #[.slice A n c] w fun e w' => ∃ A' c', e = .returned (.slice A' n c') ∧ IsRecs w' RPoint.cells RPoint.ok 2 A' n c' (zs.map flipP) ∧ Below w.heap.size w w' := by
  obtain ⟨i0, hi, hz0, hz1, hz2⟩ := info_parts infoPt
  obtain ⟨l1, l2, l3, l4, l5⟩ := h
  unfold maxLen at l3
  have L1 := Lib.hid l1
  have L5 := Lib.hid l5
  have HPb := Lib.hid hb
  clear l1 l4 l5 hb
  go_enter Tryd.func12, Tryd.ntmps12
  go_wp2_with fail
  go_loopw [3, 4] (fun ov iv wr => ∃ (i : Nat) (AO : Option Addr) (cO : Nat), iv = .int .i64 i ∧ i ≤ n ∧ ov = .slice AO i cO ∧ wr.ownsRow w.heap.size 29 2 ov i (((zs.map flipP).take i).flatMap RPoint.cells) ∧ Below w.heap.size w wr) (fun _ iv _ => n - (intOf iv).toNat)
  case atStart => exact ⟨0, none, 0, rfl, by omega, rfl, by simpa using own_nil _ _ _ _, Below.refl _ _⟩
  case round =>
    obtain ⟨i, AO, cO, rfl, hi', rfl, ho, hB⟩ := hrel
    have HO := Lib.hid ho
    have HB := Lib.hid hB
    have hzw := hB.size
    clear ho hB
    by_cases d1 : i < n
    · obtain ⟨b, off, rfl, hbl, hc⟩ := L5.out (by omega)
      obtain ⟨z, hz⟩ : ∃ z, zs[i]? = some z := ⟨_, List.getElem?_eq_getElem (by rw [L1.out]; omega)⟩
      have x0 : wr.cell? ⟨b, off + i * 2, none⟩ = some (.int .i64 z.x) := (HB.out.cell (p := ⟨b, off + i * 2, none⟩) hbl).trans (hc i z hz 0 _ rfl)
      have x1 : wr.cell? ⟨b, off + i * 2 + 1, none⟩ = some (.int .i64 z.y) := (HB.out.cell (p := ⟨b, off + i * 2 + 1, none⟩) hbl).trans (hc i z hz 1 _ rfl)
      have hzb := ptB_iff.1 (HPb.out z (List.mem_of_getElem? hz))
      have HTk := Lib.hid (take_mapP_snoc hz)
      have hwr := IntWalk.i64_in (-z.y) (by omega)
      have t0 : (0 : Int) ≤ (i : Int) := by omega
      have t1 : (i : Int) < (n : Int) := by omega
      have kb : b < wr.heap.size := by omega
      have KP := Lib.hid (fun w' (hb : Below wr.heap.size wr w') => show w'.cell? ⟨b, off + i * 2, none⟩ = some (.int .i64 z.x) ∧ w'.cell? ⟨b, off + i * 2 + 1, none⟩ = some (.int .i64 z.y) from ⟨(hb.cell (p := ⟨b, off + i * 2, none⟩) kb).trans x0, (hb.cell (p := ⟨b, off + i * 2 + 1, none⟩) kb).trans x1⟩)
      have HLow := Lib.hid (fun q (e : (Value.slice AO i cO).ownBlock = some q) => (HO.out.lt q e).1)
      have KG := Lib.hid (fun W W' (hb : Below wr.heap.size wr W) (hg : W.grownBy W' (Value.slice AO i cO).ownBlock) => show W'.cell? ⟨b, off + i * 2, none⟩ = some (.int .i64 z.x) ∧ W'.cell? ⟨b, off + i * 2 + 1, none⟩ = some (.int .i64 z.y) from by
        obtain ⟨k1, k2⟩ := KP.out W hb
        have n1 : some b ≠ (Value.slice AO i cO).ownBlock := fun e => by have := HLow.out _ e.symm; omega
        exact ⟨hg.cell k1 n1, hg.cell k2 n1⟩)
      obtain ⟨Y, hY⟩ : ∃ Y, -z.y = Y := ⟨_, rfl⟩
      have hf : flipP z = ⟨z.x, Y⟩ := by unfold flipP; rw [hY]
      rw [hf] at HTk
      rw [hY] at hwr
      have hwr' : IntKind.i64.wrap (-z.y) = Y := by rw [hY]; exact hwr
      clear hc hz hzb hY hf hwr
      go_wp2_with fail
      refine wp_region_held_drew (S := fun w9 => w9.cell? ⟨b, off + i * 2, none⟩ = some (.int .i64 z.x) ∧ w9.cell? ⟨b, off + i * 2 + 1, none⟩ = some (.int .i64 z.y)) (by kernel_rfl) (⟨x0, x1⟩) (fun hHeld => ?_)
      refine take_d (i := 0) (v := (.slice AO i cO)) (d := some 11) rfl (by kernel_rfl) (by kernel_rfl) (by kernel_rfl) (by kernel_rfl) (fun _ _ _ h => h) (Or.inl ⟨by kernel_rfl, fun w9 hw9 => by (go_simp)⟩) hHeld ?_
      try simp only [Act.put, List.setIfInBounds_toArray, List.set_cons_zero, List.set_cons_succ]
      refine take_d (i := 1) (v := (.slice (some ⟨b, off, none⟩) n c)) (d := some 12) rfl (by kernel_rfl) (by kernel_rfl) (by kernel_rfl) (by kernel_rfl) (fun _ _ _ h => h) (Or.inl ⟨by kernel_rfl, fun w9 hw9 => by (go_simp)⟩) hHeld ?_
      try simp only [Act.put, List.setIfInBounds_toArray, List.set_cons_zero, List.set_cons_succ]
      refine take_d (i := 2) (v := (.int .i64 i)) (d := some 13) rfl (by kernel_rfl) (by kernel_rfl) (by kernel_rfl) (by kernel_rfl) (fun _ _ _ h => h) (Or.inl ⟨by kernel_rfl, fun w9 hw9 => by (go_simp)⟩) hHeld ?_
      try simp only [Act.put, List.setIfInBounds_toArray, List.set_cons_zero, List.set_cons_succ]
      refine take_d (i := 3) (v := (.pointer (some ⟨b, off + i * 2, none⟩))) (d := some 14) rfl (by kernel_rfl) (by kernel_rfl) (by kernel_rfl) (by kernel_rfl) (fun _ _ _ h => h) (Or.inl ⟨by kernel_rfl, fun w9 hw9 => by (go_simp)⟩) hHeld ?_
      try simp only [Act.put, List.setIfInBounds_toArray, List.set_cons_zero, List.set_cons_succ]
      refine take_d (i := 4) (v := (.pointer (some ⟨b, off + i * 2, none⟩))) (d := some 15) rfl (by kernel_rfl) (by kernel_rfl) (by kernel_rfl) (by kernel_rfl) (fun _ _ _ h => h) (Or.inl ⟨by kernel_rfl, fun w9 hw9 => by (go_simp)⟩) hHeld ?_
      try simp only [Act.put, List.setIfInBounds_toArray, List.set_cons_zero, List.set_cons_succ]
      refine take_d (i := 5) (v := (.int .i64 z.x)) (d := some 16) rfl (by kernel_rfl) (by kernel_rfl) (by kernel_rfl) (by kernel_rfl) (fun _ _ _ h => h) (Or.inl ⟨by kernel_rfl, fun w9 hw9 => by (obtain ⟨a0, a1⟩ := hw9; go_simp)⟩) hHeld ?_
      try simp only [Act.put, List.setIfInBounds_toArray, List.set_cons_zero, List.set_cons_succ]
      refine take_d (i := 6) (v := (.slice (some ⟨b, off, none⟩) n c)) (d := some 17) rfl (by kernel_rfl) (by kernel_rfl) (by kernel_rfl) (by kernel_rfl) (fun _ _ _ h => h) (Or.inl ⟨by kernel_rfl, fun w9 hw9 => by (go_simp)⟩) hHeld ?_
      try simp only [Act.put, List.setIfInBounds_toArray, List.set_cons_zero, List.set_cons_succ]
      refine take_d (i := 7) (v := (.int .i64 i)) (d := some 18) rfl (by kernel_rfl) (by kernel_rfl) (by kernel_rfl) (by kernel_rfl) (fun _ _ _ h => h) (Or.inl ⟨by kernel_rfl, fun w9 hw9 => by (go_simp)⟩) hHeld ?_
      try simp only [Act.put, List.setIfInBounds_toArray, List.set_cons_zero, List.set_cons_succ]
      refine take_d (i := 8) (v := (.pointer (some ⟨b, off + i * 2, none⟩))) (d := some 19) rfl (by kernel_rfl) (by kernel_rfl) (by kernel_rfl) (by kernel_rfl) (fun _ _ _ h => h) (Or.inl ⟨by kernel_rfl, fun w9 hw9 => by (go_simp)⟩) hHeld ?_
      try simp only [Act.put, List.setIfInBounds_toArray, List.set_cons_zero, List.set_cons_succ]
      refine take_d (i := 9) (v := (.pointer (some ⟨b, off + i * 2 + 1, none⟩))) (d := some 20) rfl (by kernel_rfl) (by kernel_rfl) (by kernel_rfl) (by kernel_rfl) (fun _ _ _ h => h) (Or.inl ⟨by kernel_rfl, fun w9 hw9 => by (go_simp)⟩) hHeld ?_
      try simp only [Act.put, List.setIfInBounds_toArray, List.set_cons_zero, List.set_cons_succ]
      refine take_d (i := 10) (v := (.int .i64 z.y)) (d := some 21) rfl (by kernel_rfl) (by kernel_rfl) (by kernel_rfl) (by kernel_rfl) (fun _ _ _ h => h) (Or.inl ⟨by kernel_rfl, fun w9 hw9 => by (obtain ⟨a0, a1⟩ := hw9; go_simp)⟩) hHeld ?_
      try simp only [Act.put, List.setIfInBounds_toArray, List.set_cons_zero, List.set_cons_succ]
      refine take_d (i := 11) (v := (.int .i64 Y)) (d := some 22) rfl (by kernel_rfl) (by kernel_rfl) (by kernel_rfl) (by kernel_rfl) (fun _ _ _ h => h) (Or.inl ⟨by kernel_rfl, fun w9 hw9 => by (go_simp)⟩) hHeld ?_
      try simp only [Act.put, List.setIfInBounds_toArray, List.set_cons_zero, List.set_cons_succ]
      refine take_d (i := 12) (v := (.agg #[.int .i64 z.x, .int .i64 Y])) (d := some 23) rfl (by kernel_rfl) (by kernel_rfl) (by kernel_rfl) (by kernel_rfl) (fun _ _ _ h => h) (Or.inl ⟨by kernel_rfl, fun w9 hw9 => by (go_simp)⟩) hHeld ?_
      try simp only [Act.put, List.setIfInBounds_toArray, List.set_cons_zero, List.set_cons_succ]
      try simp only [Act.put, List.setIfInBounds_toArray, List.set_cons_zero, List.set_cons_succ]
      refine wpAnyH_ready (rs := [13]) (by kernel_rfl) (by simp) ?_; refine AllReadyH.cons rfl (fun K hK => ?_) AllReadyH.nil
      go_simp
      have hAl : Below wr.heap.size wr (wr.drew.alloc (.cells (RPoint.cells ⟨z.x, Y⟩).toArray 29)) := (((Below.refl _ wr).drew).alloc (by simp) _)
      refine hK.out _ _ (KP.out _ hAl) (fun hHeld2 => ?_); clear hK K hHeld; have hHeld := hHeld2; clear hHeld2
      try simp only [Act.put, List.setIfInBounds_toArray, List.set_cons_zero, List.set_cons_succ]
      refine wpAnyH_ready (rs := [14]) (by kernel_rfl) (by simp) ?_; refine AllReadyH.cons rfl (fun K hK => ?_) AllReadyH.nil
      refine step_append_lies _ rfl _ _ 27 rfl w.heap.size 29 i0 (.agg #[.int .i64 0, .int .i64 0]) 2 16 Tryd.underlying27 hi hz0 hz1 hz2 rfl (by decide) (.slice AO i cO) i (((zs.map flipP).take i).flatMap RPoint.cells) (by simp [Act.eval, Act.put]) ((HO.out).alloc _) ⟨wr.heap.size, 0, none⟩ 1 1 (RPoint.cells ⟨z.x, Y⟩) (by simp [Act.eval, Act.put]) rfl (by exact cell_newAt wr.drew (RPoint.cells ⟨z.x, Y⟩) _ _ rfl) (point_one _) (by decide) (by unfold maxLen; omega) (by omega) (by simp; omega) _ rfl ?_
      intro gg cap w5 ho5 hg5 hgg hlt5
      refine hK.out _ _ (KG.out _ _ hAl hg5) (fun hHeld2 => ?_); clear hK K hHeld; have hHeld := hHeld2; clear hHeld2
      change wpAnyH _ _ _ _ _ _ _ (Act.put _ (some 25) _) _
      try simp only [Act.put, List.setIfInBounds_toArray, List.set_cons_zero, List.set_cons_succ]
      refine take_d (i := 15) (v := (.slice (some ⟨gg, 0, none⟩) (i + 1) cap)) (d := some 3) rfl (by kernel_rfl) (by kernel_rfl) (by kernel_rfl) (by kernel_rfl) (fun _ _ _ h => h) (Or.inl ⟨by kernel_rfl, fun w9 hw9 => by (go_simp)⟩) hHeld ?_
      try simp only [Act.put, List.setIfInBounds_toArray, List.set_cons_zero, List.set_cons_succ]
      refine wpAnyH_done (by kernel_rfl) ?_ _
      try simp only [Act.put, List.setIfInBounds_toArray, List.set_cons_zero, List.set_cons_succ]
      have HB5 := Lib.hid (show Below w.heap.size w w5 from (HB.out.trans (hAl.mono hzw)).grown hg5 (by simp; omega) (fun k hk => HLow.out k hk))
      have HO5 := Lib.hid (show w5.ownsRow w.heap.size 29 2 (.slice (some ⟨gg, 0, none⟩) (i + 1) cap) (i + 1) (((zs.map flipP).take (i + 1)).flatMap RPoint.cells) from by rw [HTk.out]; simpa using ho5)
      clear hAl ho5 hg5 hgg KP KG HO HLow hHeld x0 x1 hwr'
      go_wp2_with fail
      go_roundw
      case rel => exact ⟨i + 1, _, _, by go_num, by omega, rfl, HO5.out, HB5.out⟩
      case measure => go_light; simp [intOf]; omega
    · obtain rfl : i = n := by omega
      have hall : (zs.map flipP).take i = zs.map flipP := List.take_of_length_le (by rw [List.length_map, L1.out]; exact Nat.le_refl _)
      rw [hall] at HO
      obtain ⟨A9, n9, c9, he9, hI⟩ := own_recs RPoint.cells RPoint.ok 2 (fun _ => rfl) (zs := zs.map flipP) (by rw [List.length_map, L1.out]; exact HO.out) (fun z hz => by
        obtain ⟨y, hy, rfl⟩ := List.mem_map.1 hz
        have := ptB_iff.1 (flipP_ptB (HPb.out y hy))
        unfold RPoint.ok i64B; omega)
      cases he9
      have HI := Lib.hid hI
      clear hI hall
      go_wp2_with fail
      refine bodyPost_ret (v := .slice AO i cO) (by simp [results, Tryd.results12, go_sem]) rfl ?_
      exact ⟨AO, cO, rfl, HI.out, HB.out⟩
set_option maxRecDepth 100000 in
theorem hull_Lower (A : Option Addr) (n c : Nat) (zs : List RPoint) (w : World) (h : IsRecs w RPoint.cells RPoint.ok 2 A n c zs) :
    Calls Tryd.prog 13 #[.slice A n c] w fun e w' => Below w.heap.size w w' ∧ ((ptsC zs ≠ 0 ∧ e = .returned (.tuple #[.slice none 0 0, .iface 39 (.int .i64 (ptsC zs))])) ∨ (ptsC zs = 0 ∧ ∃ cs A' k' c', e = .returned (.tuple #[.slice A' k' c', .nilIface]) ∧ IsRecs w' RPoint.cells RPoint.ok 2 A' k' c' (cs.map flipP) ∧ IsHull (zs.map flipP) cs ∧ k' ≤ n)) := by
  have CC := Lib.hid (hull_Check A n c zs w h)
  by_cases hc : ptsC zs = 0
  · obtain ⟨q1, q2⟩ := ptsC_0 hc
    have hn60 : n ≤ 60 := by have := h.1; omega
    have CF := Lib.hid (fun w' (hb : Below w.heap.size w w') => by have := hull_flip A n c zs w' (h.below hb) (by omega); rw [map_flip q2] at this; exact this)
    have HC := Lib.hid hc
    have HQ := Lib.hid (show ∀ z ∈ zs.map flipP, ptB z = true from fun z hz => by
      obtain ⟨y, hy, rfl⟩ := List.mem_map.1 hz
      exact flipP_ptB (q2 y hy))
    rw [hc] at CC
    clear h hc q1 q2
    go_enter Tryd.func13, Tryd.ntmps13
    go_wp2_with fail
    refine CC.out.mono ?_
    rintro e w1 ⟨rfl, hb1⟩
    have HB1 := Lib.hid hb1
    clear hb1
    go_wp2_with fail
    refine (CF.out _ HB1.out).mono ?_
    rintro e w2 ⟨A2, c2, rfl, hI2, hb2⟩
    have HB2 := Lib.hid (HB1.out.trans (hb2.mono HB1.out.size))
    have CU := Lib.hid (hull_upper A2 n c2 _ w2 hI2 hn60 HQ.out)
    clear hI2 hb2 CF
    go_wp2_with fail
    refine CU.out.mono ?_
    rintro e w3 ⟨cs, A3, k3, c3, rfl, hI3, hH, hk, hb3⟩
    have HH := Lib.hid hH
    have HB3 := Lib.hid (HB2.out.trans (hb3.mono HB2.out.size))
    have CF2 := Lib.hid (by have := hull_flip A3 k3 c3 cs w3 hI3 (by omega); rw [map_flip (fun z hz => HQ.out z (hH.sub z hz))] at this; exact this)
    clear hI3 hH hb3 CU
    go_wp2_with fail
    refine CF2.out.mono ?_
    rintro e w4 ⟨A4, c4, rfl, hI4, hb4⟩
    have HI4 := Lib.hid hI4
    have HB4 := Lib.hid (HB3.out.trans (hb4.mono HB3.out.size))
    clear hI4 hb4
    go_wp2_with fail
    refine bodyPost_ret (v := .tuple #[.slice A4 k3 c4, .nilIface]) (by simp [results, Tryd.results13, go_sem]) rfl ?_
    exact ⟨HB4.out, .inr ⟨HC.out, cs, A4, k3, c4, rfl, HI4.out, HH.out, hk⟩⟩
  · have HC := Lib.hid hc
    obtain ⟨e0, he0⟩ : ∃ e, ptsC zs = e := ⟨_, rfl⟩
    rw [he0] at CC hc
    have HE := Lib.hid he0
    have hr := errV_ne hc
    rw [hr] at CC
    clear h he0 hr
    go_enter Tryd.func13, Tryd.ntmps13
    go_wp2_with fail
    refine CC.out.mono ?_
    rintro e w1 ⟨rfl, hb1⟩
    go_wp2_with fail
    refine bodyPost_ret (v := .tuple #[.slice none 0 0, .iface 39 (.int .i64 e0)]) (by simp [results, Tryd.results13, go_sem]) rfl ?_
    exact ⟨hb1, .inl ⟨HC.out, by rw [HE.out]⟩⟩
end Go.Proofs.YtdjkhagdckhijaaDoor
