/- A node: the edges that are told, walked. -/
import Derived.Test.YtfjpfkejajgkbaaDoorHNodeS
import Derived.Deep.AppendLies
namespace Go.Proofs.YtfjpfkejajgkbaaDoor
open Go.RowKit
set_option linter.unusedVariables false
set_option linter.unusedSimpArgs false
theorem edge_oneN (z : REdge) : ∀ u ∈ REdge.cells z, u.oneCell' = true := by
  intro u hu
  simp [REdge.cells] at hu
  rcases hu with rfl | rfl | rfl | rfl <;> rfl
theorem infoEdgeN : (Tryd.prog.info? 72).map (fun i => (i.zero, i.size, i.bytes)) = some (some (.agg #[.int .i64 0, .int .i64 0, .int .i64 0, .int .i64 0]), 4, 32) := by kernel_rfl
/-- the edges that are told, and the fault. -/
def EdgesTold (w w' : World) (e : Ending) (E : List REdge) (c : Int) : Prop :=
  ∃ A n k, e = .returned (.tuple #[.slice A n k, errV c]) ∧ IsRecs w' REdge.cells REdge.ok 4 A n k E ∧ Below w.heap.size w w'
set_option maxRecDepth 100000 in
set_option maxHeartbeats 8000000 in
theorem node_Edges (g mb K : Nat) (s : NSt) (here : Int) (w : World) (h : NodeAt w g mb K s) :
    Calls Tryd.prog 47 #[.pointer (some ⟨g, 0, none⟩), .int .i64 here] w fun e w' => EdgesTold w w' e (tellE s here) (tellC s here) := by
  obtain ⟨i0, hi, hz0, hz1, hz2⟩ := info_parts infoEdgeN
  have HU := Lib.hid h
  have HEok := Lib.hid (tellE_ok (here := here) h.ok)
  have n6 := h.ok.n6
  have kl := h.blk.lt
  have CS := Lib.hid (node_Spans g mb K s here w h)
  clear h
  go_enter Tryd.func47, Tryd.ntmps47
  go_wp2_with fail
  refine CS.out.mono ?_
  rintro e w1 ⟨A0, n, k0, B0, m, d0, rfl, hS, hH, hb1, _, _⟩
  by_cases hc : tellC s here = 0
  · have HC := Lib.hid hc
    have hSN : n = s.N := by rw [← hS.1]; unfold tellS; rw [if_pos hc]; simp
    have hHN : m = s.N := by rw [← hH.1]; unfold tellB; rw [if_pos hc]; simp
    obtain ⟨N, hN⟩ : ∃ N, s.N = N := ⟨_, rfl⟩
    rw [hN] at hSN hHN n6
    have HN := Lib.hid hN
    subst hSN
    obtain rfl : n = m := hHN.symm
    have hk0 := hS.2.2.1
    have hkn := hS.2.1
    have hd0 := hH.2.2.1
    have hdn := hH.2.1
    unfold maxLen at hk0 hd0
    have HS := Lib.hid hS
    have HH := Lib.hid hH
    have HB1 := Lib.hid hb1
    have hz1' := hb1.size
    rw [hc]
    clear hS hH hb1 hHN CS hN hc
    go_wp2_with fail
    go_loopw [9, 24] (fun vv iv wr => ∃ i : Nat, iv = .int .i64 i ∧ i ≤ n ∧ wr.ownsRow w1.heap.size 72 4 vv ((List.range i).flatMap (edgeAt s here)).length (((List.range i).flatMap (edgeAt s here)).flatMap REdge.cells) ∧ Below w1.heap.size w1 wr) (fun _ iv _ => n - (intOf iv).toNat)
    case atStart => exact ⟨0, rfl, by omega, by simpa using own_nil _ _ _ _, Below.refl _ _⟩
    case round =>
      obtain ⟨i, rfl, hi', hO, hB⟩ := hrel
      have HO := Lib.hid hO
      have HBr := Lib.hid hB
      have hzr := hB.size
      have kl2 : g < wr.heap.size := by omega
      have y0 : wr.cell? ⟨g, 0, none⟩ = some (.int .i64 s.id) := (HU.out.below (HB1.out.trans (hB.mono HB1.out.size))).blk.cell 0
      obtain ⟨AO, cO, rfl, hAc, hcm⟩ := own_slice hO
      unfold maxLen at hcm
      have hlen := flat_le (edgeAt s here) (edgeAt_len s here) i
      by_cases d1 : i < n
      · obtain ⟨b1, off1, rfl, hb1', hc1⟩ := HS.out.2.2.2.2 (by omega)
        obtain ⟨b2, off2, rfl, hb2', hc2⟩ := HH.out.2.2.2.2 (by omega)
        have hsz : (tellS s here)[i]? = some (spanAt s here i) := by unfold tellS; rw [if_pos HC.out, List.getElem?_map, HN.out, List.getElem?_range d1]; rfl
        have hbz : (tellB s here)[i]? = some (hasAt s i) := by unfold tellB; rw [if_pos HC.out, List.getElem?_map, HN.out, List.getElem?_range d1]; rfl
        have x0 : wr.cell? ⟨b1, off1 + i * 2, none⟩ = some (.int .i64 (spanAt s here i).lo) := (hB.cell (p := ⟨b1, off1 + i * 2, none⟩) hb1').trans (hc1 i _ hsz 0 _ rfl)
        have x1 : wr.cell? ⟨b1, off1 + i * 2 + 1, none⟩ = some (.int .i64 (spanAt s here i).hi) := (hB.cell (p := ⟨b1, off1 + i * 2 + 1, none⟩) hb1').trans (hc1 i _ hsz 1 _ rfl)
        have x2 : wr.cell? ⟨b2, off2 + i, none⟩ = some (.bool (hasAt s i)) := by have := (hB.cell (p := ⟨b2, off2 + i * 1 + 0, none⟩) hb2').trans (hc2 i _ hbz 0 _ rfl); simpa using this
        have g1 : (i : Int) < (n : Int) := by omega
        have g2 : (0 : Int) ≤ (i : Int) := by omega
        have lb1 : b1 < wr.heap.size := by omega
        have lb2 : b2 < wr.heap.size := by omega
        have hstep : (List.range (i + 1)).flatMap (edgeAt s here) = (List.range i).flatMap (edgeAt s here) ++ edgeAt s here i := by rw [List.range_succ, List.flatMap_append, List.flatMap_cons, List.flatMap_nil, List.append_nil]
        obtain ⟨lo, hlo⟩ : ∃ v, (spanAt s here i).lo = v := ⟨_, rfl⟩
        obtain ⟨hiV, hhi⟩ : ∃ v, (spanAt s here i).hi = v := ⟨_, rfl⟩
        obtain ⟨hv, hhv⟩ : ∃ v, hasAt s i = v := ⟨_, rfl⟩
        rw [hlo] at x0
        rw [hhi] at x1
        rw [hhv] at x2
        by_cases hq : hv = true ∧ i ≠ s.id
        · obtain ⟨rfl, hne⟩ := hq
          have he : edgeAt s here i = [⟨s.id, i, lo, hiV⟩] := by unfold edgeAt; rw [if_pos ⟨hhv, hne⟩, hlo, hhi]
          have HStep := Lib.hid (show (List.range (i + 1)).flatMap (edgeAt s here) = (List.range i).flatMap (edgeAt s here) ++ [⟨s.id, i, lo, hiV⟩] by rw [hstep, he])
          obtain ⟨E, hE⟩ : ∃ E, (List.range i).flatMap (edgeAt s here) = E := ⟨_, rfl⟩
          rw [hE] at HO HStep hlen hAc ⊢
          have g3 : ((i : Int) != (s.id : Int)) = true := by simp; omega
          have KP := Lib.hid (fun w' (hb : Below wr.heap.size wr w') => show w'.cell? ⟨g, 0, none⟩ = some (.int .i64 s.id) ∧ w'.cell? ⟨b1, off1 + i * 2, none⟩ = some (.int .i64 lo) ∧ w'.cell? ⟨b1, off1 + i * 2 + 1, none⟩ = some (.int .i64 hiV) from ⟨(hb.cell (p := ⟨g, 0, none⟩) kl2).trans y0, (hb.cell (p := ⟨b1, off1 + i * 2, none⟩) lb1).trans x0, (hb.cell (p := ⟨b1, off1 + i * 2 + 1, none⟩) lb1).trans x1⟩)
          have HLow := Lib.hid (fun q (e : (Value.slice AO E.length cO).ownBlock = some q) => (HO.out.lt q e).1)
          have KG := Lib.hid (fun W W' (hb : Below wr.heap.size wr W) (hg : W.grownBy W' (Value.slice AO E.length cO).ownBlock) => show W'.cell? ⟨g, 0, none⟩ = some (.int .i64 s.id) ∧ W'.cell? ⟨b1, off1 + i * 2, none⟩ = some (.int .i64 lo) ∧ W'.cell? ⟨b1, off1 + i * 2 + 1, none⟩ = some (.int .i64 hiV) from by
            obtain ⟨k1, k2, k3⟩ := KP.out W hb
            have n1 : some g ≠ (Value.slice AO E.length cO).ownBlock := fun e => by have := HLow.out _ e.symm; omega
            have n2 : some b1 ≠ (Value.slice AO E.length cO).ownBlock := fun e => by have := HLow.out _ e.symm; omega
            exact ⟨hg.cell k1 n1, hg.cell k2 n2, hg.cell k3 n2⟩)
          clear hstep he hE hO hB hlo hhi hhv hne hsz hbz hc1 hc2
          go_wp2_with fail
          refine wp_region_held_drew (S := fun w9 => w9.cell? ⟨g, 0, none⟩ = some (.int .i64 s.id) ∧ w9.cell? ⟨b1, off1 + i * 2, none⟩ = some (.int .i64 lo) ∧ w9.cell? ⟨b1, off1 + i * 2 + 1, none⟩ = some (.int .i64 hiV)) (by kernel_rfl) (⟨y0, x0, x1⟩) (fun hHeld => ?_)
          refine take_d (i := 0) (v := (.slice AO E.length cO)) (d := some 38) rfl (by kernel_rfl) (by kernel_rfl) (by kernel_rfl) (by kernel_rfl) (fun _ _ _ h => h) (Or.inl ⟨by kernel_rfl, fun w9 hw9 => by (go_simp)⟩) hHeld ?_
          try simp only [Act.put, List.setIfInBounds_toArray, List.set_cons_zero, List.set_cons_succ]
          refine take_d (i := 1) (v := (.pointer (some ⟨g, 0, none⟩))) (d := some 39) rfl (by kernel_rfl) (by kernel_rfl) (by kernel_rfl) (by kernel_rfl) (fun _ _ _ h => h) (Or.inl ⟨by kernel_rfl, fun w9 hw9 => by (go_simp)⟩) hHeld ?_
          try simp only [Act.put, List.setIfInBounds_toArray, List.set_cons_zero, List.set_cons_succ]
          refine take_d (i := 2) (v := (.pointer (some ⟨g, 0, none⟩))) (d := some 40) rfl (by kernel_rfl) (by kernel_rfl) (by kernel_rfl) (by kernel_rfl) (fun _ _ _ h => h) (Or.inl ⟨by kernel_rfl, fun w9 hw9 => by (go_simp)⟩) hHeld ?_
          try simp only [Act.put, List.setIfInBounds_toArray, List.set_cons_zero, List.set_cons_succ]
          refine take_d (i := 3) (v := (.pointer (some ⟨g, 0, none⟩))) (d := some 41) rfl (by kernel_rfl) (by kernel_rfl) (by kernel_rfl) (by kernel_rfl) (fun _ _ _ h => h) (Or.inl ⟨by kernel_rfl, fun w9 hw9 => by (go_simp)⟩) hHeld ?_
          try simp only [Act.put, List.setIfInBounds_toArray, List.set_cons_zero, List.set_cons_succ]
          refine take_d (i := 4) (v := (.int .i64 s.id)) (d := some 42) rfl (by kernel_rfl) (by kernel_rfl) (by kernel_rfl) (by kernel_rfl) (fun _ _ _ h => h) (Or.inl ⟨by kernel_rfl, fun w9 hw9 => by (obtain ⟨a0, a1, a2⟩ := hw9; go_simp)⟩) hHeld ?_
          try simp only [Act.put, List.setIfInBounds_toArray, List.set_cons_zero, List.set_cons_succ]
          refine take_d (i := 5) (v := (.int .i64 i)) (d := some 43) rfl (by kernel_rfl) (by kernel_rfl) (by kernel_rfl) (by kernel_rfl) (fun _ _ _ h => h) (Or.inl ⟨by kernel_rfl, fun w9 hw9 => by (go_simp)⟩) hHeld ?_
          try simp only [Act.put, List.setIfInBounds_toArray, List.set_cons_zero, List.set_cons_succ]
          refine take_d (i := 6) (v := (.slice (some ⟨b1, off1, none⟩) n k0)) (d := some 44) rfl (by kernel_rfl) (by kernel_rfl) (by kernel_rfl) (by kernel_rfl) (fun _ _ _ h => h) (Or.inl ⟨by kernel_rfl, fun w9 hw9 => by (go_simp)⟩) hHeld ?_
          try simp only [Act.put, List.setIfInBounds_toArray, List.set_cons_zero, List.set_cons_succ]
          refine take_d (i := 7) (v := (.int .i64 i)) (d := some 45) rfl (by kernel_rfl) (by kernel_rfl) (by kernel_rfl) (by kernel_rfl) (fun _ _ _ h => h) (Or.inl ⟨by kernel_rfl, fun w9 hw9 => by (go_simp)⟩) hHeld ?_
          try simp only [Act.put, List.setIfInBounds_toArray, List.set_cons_zero, List.set_cons_succ]
          refine take_d (i := 8) (v := (.pointer (some ⟨b1, off1 + i * 2, none⟩))) (d := some 46) rfl (by kernel_rfl) (by kernel_rfl) (by kernel_rfl) (by kernel_rfl) (fun _ _ _ h => h) (Or.inl ⟨by kernel_rfl, fun w9 hw9 => by (go_simp)⟩) hHeld ?_
          try simp only [Act.put, List.setIfInBounds_toArray, List.set_cons_zero, List.set_cons_succ]
          refine take_d (i := 9) (v := (.agg #[.int .i64 lo, .int .i64 hiV])) (d := some 47) rfl (by kernel_rfl) (by kernel_rfl) (by kernel_rfl) (by kernel_rfl) (fun _ _ _ h => h) (Or.inl ⟨by kernel_rfl, fun w9 hw9 => by (obtain ⟨a0, a1, a2⟩ := hw9; go_simp)⟩) hHeld ?_
          try simp only [Act.put, List.setIfInBounds_toArray, List.set_cons_zero, List.set_cons_succ]
          refine take_d (i := 10) (v := (.agg #[.int .i64 s.id, .int .i64 i, .int .i64 lo, .int .i64 hiV])) (d := some 48) rfl (by kernel_rfl) (by kernel_rfl) (by kernel_rfl) (by kernel_rfl) (fun _ _ _ h => h) (Or.inl ⟨by kernel_rfl, fun w9 hw9 => by (go_simp)⟩) hHeld ?_
          try simp only [Act.put, List.setIfInBounds_toArray, List.set_cons_zero, List.set_cons_succ]
          try simp only [Act.put, List.setIfInBounds_toArray, List.set_cons_zero, List.set_cons_succ]
          refine wpAnyH_ready (rs := [11]) (by kernel_rfl) (by simp) ?_; refine AllReadyH.cons rfl (fun K hK => ?_) AllReadyH.nil
          go_simp
          have hAl : Below wr.heap.size wr (wr.drew.alloc (.cells (REdge.cells ⟨s.id, i, lo, hiV⟩).toArray 72)) := (((Below.refl _ wr).drew).alloc (by simp) _)
          refine hK.out _ _ (KP.out _ hAl) (fun hHeld2 => ?_); clear hK K hHeld; have hHeld := hHeld2; clear hHeld2
          try simp only [Act.put, List.setIfInBounds_toArray, List.set_cons_zero, List.set_cons_succ]
          refine wpAnyH_ready (rs := [12]) (by kernel_rfl) (by simp) ?_; refine AllReadyH.cons rfl (fun K hK => ?_) AllReadyH.nil
          refine step_append_lies _ rfl _ _ 60 rfl w1.heap.size 72 i0 (.agg #[.int .i64 0, .int .i64 0, .int .i64 0, .int .i64 0]) 4 32 Tryd.underlying60 hi hz0 hz1 hz2 rfl (by decide) (.slice AO E.length cO) E.length (E.flatMap REdge.cells) (by simp [Act.eval, Act.put]) ((HO.out).alloc _) ⟨wr.heap.size, 0, none⟩ 1 1 (REdge.cells ⟨s.id, i, lo, hiV⟩) (by simp [Act.eval, Act.put]) rfl (by exact cell_newAt wr.drew (REdge.cells ⟨s.id, i, lo, hiV⟩) _ _ rfl) (edge_oneN _) (by decide) (by unfold maxLen; omega) (by omega) (by simp; omega) _ rfl ?_
          intro gg cap w5 ho5 hg5 hgg hlt5
          refine hK.out _ _ (KG.out _ _ hAl hg5) (fun hHeld2 => ?_); clear hK K hHeld; have hHeld := hHeld2; clear hHeld2
          change wpAnyH _ _ _ _ _ _ _ (Act.put _ (some 50) _) _
          try simp only [Act.put, List.setIfInBounds_toArray, List.set_cons_zero, List.set_cons_succ]
          refine take_d (i := 13) (v := (.slice (some ⟨gg, 0, none⟩) (E.length + 1) cap)) (d := some 9) rfl (by kernel_rfl) (by kernel_rfl) (by kernel_rfl) (by kernel_rfl) (fun _ _ _ h => h) (Or.inl ⟨by kernel_rfl, fun w9 hw9 => by (go_simp)⟩) hHeld ?_
          try simp only [Act.put, List.setIfInBounds_toArray, List.set_cons_zero, List.set_cons_succ]
          refine wpAnyH_done (by kernel_rfl) ?_ _
          try simp only [Act.put, List.setIfInBounds_toArray, List.set_cons_zero, List.set_cons_succ]
          have HB5 := Lib.hid (show Below w1.heap.size w1 w5 from (HBr.out.trans (hAl.mono hzr)).grown hg5 (by simp; omega) (fun k hk => HLow.out k hk))
          have HO5 := Lib.hid (show w5.ownsRow w1.heap.size 72 4 (.slice (some ⟨gg, 0, none⟩) (E.length + 1) cap) ((List.range (i + 1)).flatMap (edgeAt s here)).length (((List.range (i + 1)).flatMap (edgeAt s here)).flatMap REdge.cells) from by rw [HStep.out]; exact own_snoc REdge.cells ho5)
          clear hAl ho5 hg5 hgg KP KG HO HLow hHeld x0 x1 x2 y0
          go_wp2_with fail
          go_roundw
          case rel => exact ⟨i + 1, by go_num, by omega, HO5.out, HB5.out⟩
          case measure => go_light; simp [intOf]; omega
        · have he : edgeAt s here i = [] := by unfold edgeAt; rw [if_neg (by rw [hhv]; exact hq)]
          have HStep := Lib.hid (show (List.range (i + 1)).flatMap (edgeAt s here) = (List.range i).flatMap (edgeAt s here) by rw [hstep, he, List.append_nil])
          have hd : hv = false ∨ (hv = true ∧ ((i : Int) != (s.id : Int)) = false) := by
            cases hv
            · exact .inl rfl
            · right; refine ⟨rfl, ?_⟩; simp; by_cases e : i = s.id; omega; exact absurd ⟨rfl, e⟩ hq
          have HO5 := Lib.hid (show wr.ownsRow w1.heap.size 72 4 (.slice AO ((List.range i).flatMap (edgeAt s here)).length cO) ((List.range (i + 1)).flatMap (edgeAt s here)).length (((List.range (i + 1)).flatMap (edgeAt s here)).flatMap REdge.cells) from by rw [HStep.out]; exact HO.out)
          clear hstep he hO hB hlo hhi hhv hq hsz hbz hc1 hc2 HStep
          rcases hd with rfl | ⟨rfl, g3⟩
          all_goals
            go_wp2_with fail
            go_roundw
            case rel => exact ⟨i + 1, by go_num, by omega, HO5.out, HBr.out⟩
            case measure => go_light; simp [intOf]; omega
      · obtain rfl : i = n := by omega
        have hE : (List.range i).flatMap (edgeAt s here) = tellE s here := by unfold tellE; rw [if_pos HC.out, HN.out]
        rw [hE] at hO HO ⊢
        obtain ⟨A9, n9, c9, e9, hI9⟩ := own_recs REdge.cells REdge.ok 4 (fun _ => rfl) hO HEok.out
        have HI9 := Lib.hid hI9
        have HB9 := Lib.hid (HB1.out.trans (hB.mono HB1.out.size))
        rw [e9]
        clear hO HO hB hI9 hE e9 hlen hAc hcm y0
        go_wp2_with fail
        refine bodyPost_ret (v := .tuple #[.slice A9 n9 c9, .nilIface]) (by simp [results, Tryd.results47, go_sem]) rfl ?_
        exact ⟨_, _, _, by rw [HC.out]; rfl, HI9.out, HB9.out⟩
  · have HT := Lib.hid (show tellE s here = [] by unfold tellE; rw [if_neg hc])
    have HB1 := Lib.hid hb1
    obtain ⟨c, hcc⟩ : ∃ c, tellC s here = c := ⟨_, rfl⟩
    rw [hcc] at hc ⊢
    have e1 : (c != 0) = true := by simp; exact hc
    rw [errV_ne hc]
    have HCC := Lib.hid hcc
    clear hS hH hb1 CS hcc
    go_wp2_with fail
    refine bodyPost_ret (v := .tuple #[.slice none 0 0, .iface 87 (.int .i64 c)]) (by simp [results, Tryd.results47, go_sem]) rfl ?_
    exact ⟨none, 0, 0, by rw [HCC.out, errV_ne hc], by rw [HT.out]; exact recs_nil _ _ _ _, HB1.out⟩
end Go.Proofs.YtfjpfkejajgkbaaDoor
