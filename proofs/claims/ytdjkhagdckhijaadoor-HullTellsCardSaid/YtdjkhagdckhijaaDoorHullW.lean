/- Package hull: flip, Upper, Lower, Over, Under, walked. -/
import Derived.Test.YtdjkhagdckhijaaDoorHullO
namespace Go.Proofs.YtdjkhagdckhijaaDoor
open Go.RowKit Go.Shelf Go.Sort
set_option linter.unusedVariables false
set_option linter.unusedSimpArgs false
/-- a point upside down, as the program does it. -/
def flipW (p : RPoint) : RPoint := ⟨p.x, if p.y = -9223372036854775808 then -9223372036854775808 else -p.y⟩
theorem flipW_ok {p : RPoint} (h : RPoint.ok p) : RPoint.ok (flipW p) := by
  unfold RPoint.ok i64B at *
  unfold flipW
  refine ⟨h.1, ?_⟩
  simp only
  split <;> omega
theorem flipW_wrap {y : Int} (h : -9223372036854775808 ≤ y ∧ y ≤ 9223372036854775807) : IntKind.i64.wrap (-y) = if y = -9223372036854775808 then -9223372036854775808 else -y := by
  split
  · rename_i e; subst e; rfl
  · exact IntWalk.i64_in (-y) (by omega)
theorem flipW_ptB {p : RPoint} : ptB (flipW p) = ptB p := by
  unfold ptB flipW bdB
  simp only
  split
  · rename_i e; rw [e]
  · congr 1
    rw [Bool.eq_iff_iff]
    simp only [Bool.and_eq_true, decide_eq_true_eq]
    omega
theorem flipW_P {p : RPoint} (h : ptB p = true) : flipW p = flipP p := by
  have := ptB_iff.1 h
  unfold flipW flipP
  rw [if_neg (by omega)]
theorem ptsC_flip (zs : List RPoint) : ptsC (zs.map flipW) = ptsC zs := by
  unfold ptsC badP
  rw [List.length_map, List.any_map, show (fun z => !ptB z) ∘ flipW = fun z => !ptB z from funext fun z => by simp [flipW_ptB]]
theorem map_flip {zs : List RPoint} (h : ∀ z ∈ zs, ptB z = true) : zs.map flipW = zs.map flipP := List.map_congr_left fun z hz => flipW_P (h z hz)
theorem take_map_snoc {zs : List RPoint} {i : Nat} {z : RPoint} (h : zs[i]? = some z) : (zs.map flipW).take (i + 1) = (zs.map flipW).take i ++ [flipW z] := by
  rw [List.take_add_one, List.getElem?_map, h]; rfl
set_option maxRecDepth 100000 in
set_option maxHeartbeats 4000000 in
theorem hull_flip (A : Option Addr) (n c : Nat) (zs : List RPoint) (w : World) (h : IsRecs w RPoint.cells RPoint.ok 2 A n c zs) (hr : n * 16 ≤ 140737488355328) :
    Calls Tryd.prog 19 #[.slice A n c] w fun e w' => ∃ A' c', e = .returned (.slice A' n c') ∧ IsRecs w' RPoint.cells RPoint.ok 2 A' n c' (zs.map flipW) ∧ Below w.heap.size w w' := by
  obtain ⟨i0, hi, hz0, hz1, hz2⟩ := info_parts infoPt
  obtain ⟨l1, l2, l3, l4, l5⟩ := h
  unfold maxLen at l3
  have L1 := Lib.hid l1
  have L4 := Lib.hid l4
  have L5 := Lib.hid l5
  clear l1 l4 l5
  go_enter Tryd.func19, Tryd.ntmps19
  go_wp2_with fail
  go_loopw [3, 8] (fun ov iv wr => ∃ i : Nat, iv = .int .i64 i ∧ i ≤ n ∧ wr.ownsRow w.heap.size 29 2 ov i (((zs.map flipW).take i).flatMap RPoint.cells) ∧ Below w.heap.size w wr) (fun _ iv _ => n - (intOf iv).toNat)
  case atStart => exact ⟨0, rfl, by omega, by simpa using own_nil _ _ _ _, Below.refl _ _⟩
  case round =>
    obtain ⟨i, rfl, hi', ho, hB⟩ := hrel
    have HO := Lib.hid ho
    have HB := Lib.hid hB
    have hzw := hB.size
    clear ho hB
    by_cases d1 : i < n
    · obtain ⟨b, off, rfl, hb, hc⟩ := L5.out (by omega)
      obtain ⟨z, hz⟩ : ∃ z, zs[i]? = some z := ⟨_, List.getElem?_eq_getElem (by rw [L1.out]; omega)⟩
      have x0 : wr.cell? ⟨b, off + i * 2, none⟩ = some (.int .i64 z.x) := (HB.out.cell (p := ⟨b, off + i * 2, none⟩) hb).trans (hc i z hz 0 _ rfl)
      have x1 : wr.cell? ⟨b, off + i * 2 + 1, none⟩ = some (.int .i64 z.y) := (HB.out.cell (p := ⟨b, off + i * 2 + 1, none⟩) hb).trans (hc i z hz 1 _ rfl)
      have HTk := Lib.hid (take_map_snoc hz)
      have hzo := L4.out z (List.mem_of_getElem? hz)
      have hwr := flipW_wrap hzo.2
      have hfl : flipW z = ⟨z.x, if z.y = -9223372036854775808 then -9223372036854775808 else -z.y⟩ := rfl
      obtain ⟨Y, hY⟩ : ∃ Y, (if z.y = -9223372036854775808 then (-9223372036854775808 : Int) else -z.y) = Y := ⟨_, rfl⟩
      rw [hY] at hwr hfl
      rw [hfl] at HTk
      have t0 : (0 : Int) ≤ (i : Int) := by omega
      have t1 : (i : Int) < (n : Int) := by omega
      have B1 := Lib.hid (show i + 1 ≤ maxLen by unfold maxLen; omega)
      have B2 := Lib.hid (show (i + 1) * 16 ≤ 140737488355328 by omega)
      clear hc hz hzo hY hfl
      go_wp2_with (at_builtin; refine wpList_append_own _ rfl _ _ 27 rfl w.heap.size 29 i0 (.agg #[.int .i64 0, .int .i64 0]) 2 16 Tryd.underlying27 hi hz0 hz1 hz2 rfl (by decide) _ _ _ rfl ((HO.out.alloc _).alloc _) ⟨wr.heap.size + 1, 0, none⟩ 1 1 (RPoint.cells ⟨z.x, Y⟩) rfl rfl (cell_newAt (wr.alloc _) (RPoint.cells ⟨z.x, Y⟩) _ _ (by simp)) (point_one _) B1.out B2.out (by simp; omega) ?_; intro v' w1 ho1 hg1 _)
      have HB2 := Lib.hid (show Below w.heap.size w w1 from ((HB.out.alloc hzw _).alloc (by simp; omega) _).grown hg1 (by simp; omega) (fun k hk => (HO.out.lt k hk).1))
      have HO2 := Lib.hid (show w1.ownsRow w.heap.size 29 2 v' (i + 1) (((zs.map flipW).take (i + 1)).flatMap RPoint.cells) by rw [HTk.out]; simpa using ho1)
      clear ho1 hg1 hwr x0 x1
      go_wp2_with fail
      go_roundw
      case rel => exact ⟨i + 1, by go_num, by omega, HO2.out, HB2.out⟩
      case measure => go_light; simp [intOf]; omega
    · obtain rfl : i = n := by omega
      have hall : (zs.map flipW).take i = zs.map flipW := List.take_of_length_le (by rw [List.length_map, L1.out]; exact Nat.le_refl _)
      rw [hall] at HO
      obtain ⟨A9, n9, c9, rfl, hI⟩ := own_recs RPoint.cells RPoint.ok 2 (fun _ => rfl) (zs := zs.map flipW) (by rw [List.length_map, L1.out]; exact HO.out) (fun z hz => by
        obtain ⟨y, hy, rfl⟩ := List.mem_map.1 hz
        exact flipW_ok (L4.out y hy))
      have HI := Lib.hid hI
      have hn9 : n9 = i := by rw [← hI.1, List.length_map, L1.out]
      subst hn9
      clear hI hall
      go_wp2_with fail
      go_ret
      exact ⟨A9, c9, rfl, HI.out, HB.out⟩
set_option maxRecDepth 100000 in
theorem hull_Upper (A : Option Addr) (n c : Nat) (zs : List RPoint) (w : World) (h : IsRecs w RPoint.cells RPoint.ok 2 A n c zs) :
    Calls Tryd.prog 7 #[.slice A n c] w fun e w' => Below w.heap.size w w' ∧ ((ptsC zs ≠ 0 ∧ e = .returned (.tuple #[.slice none 0 0, .iface 39 (.int .i64 (ptsC zs))])) ∨ (ptsC zs = 0 ∧ ∃ cs A' k' c', e = .returned (.tuple #[.slice A' k' c', .nilIface]) ∧ IsRecs w' RPoint.cells RPoint.ok 2 A' k' c' cs ∧ IsHull zs cs ∧ k' ≤ n)) := by
  have CC := Lib.hid (hull_Check A n c zs w h)
  by_cases hc : ptsC zs = 0
  · obtain ⟨q1, q2⟩ := ptsC_0 hc
    have CU := Lib.hid (fun w' (hb : Below w.heap.size w w') => hull_upper A n c zs w' (h.below hb) (by have := h.1; omega) q2)
    have HC := Lib.hid hc
    rw [hc] at CC
    clear h hc q1 q2
    go_enter Tryd.func7, Tryd.ntmps7
    go_wp2_with fail
    refine CC.out.mono ?_
    rintro e w1 ⟨rfl, hb1⟩
    have HB1 := Lib.hid hb1
    clear hb1
    go_wp2_with fail
    refine (CU.out _ HB1.out).mono ?_
    rintro e w2 ⟨cs, A', k', c', rfl, hI, hH, hk, hb2⟩
    have HI := Lib.hid hI
    have HH := Lib.hid hH
    have HB2 := Lib.hid (HB1.out.trans (hb2.mono HB1.out.size))
    clear hI hH hb2
    go_wp2_with fail
    refine bodyPost_ret (v := .tuple #[.slice A' k' c', .nilIface]) (by simp [results, Tryd.results7, go_sem]) rfl ?_
    exact ⟨HB2.out, .inr ⟨HC.out, cs, A', k', c', rfl, HI.out, HH.out, hk⟩⟩
  · have HC := Lib.hid hc
    obtain ⟨e0, he0⟩ : ∃ e, ptsC zs = e := ⟨_, rfl⟩
    rw [he0] at CC hc
    have HE := Lib.hid he0
    have hr := errV_ne hc
    rw [hr] at CC
    clear h he0 hr
    go_enter Tryd.func7, Tryd.ntmps7
    go_wp2_with fail
    refine CC.out.mono ?_
    rintro e w1 ⟨rfl, hb1⟩
    go_wp2_with fail
    refine bodyPost_ret (v := .tuple #[.slice none 0 0, .iface 39 (.int .i64 e0)]) (by simp [results, Tryd.results7, go_sem]) rfl ?_
    exact ⟨hb1, .inl ⟨HC.out, by rw [HE.out]⟩⟩
/-- what Over answers. -/
def OverC (zs : List RPoint) (x v c : Int) : Prop :=
  (ptsC zs ≠ 0 ∧ c = ptsC zs ∧ v = 0) ∨ (ptsC zs = 0 ∧ ((zs = [] ∧ c = 5 ∧ v = 0) ∨ (zs ≠ [] ∧ ∃ cs, IsHull zs cs ∧
    ((c = 1 ∧ v = 0 ∧ ((∃ a, cs[0]? = some a ∧ x < a.x) ∨ ∃ a, cs[cs.length - 1]? = some a ∧ a.x < x)) ∨ (c = 0 ∧ (∀ a, cs[0]? = some a → a.x ≤ x) ∧ (∀ a, cs[cs.length - 1]? = some a → x ≤ a.x) ∧ OverR cs x v)))))
set_option maxRecDepth 100000 in
set_option maxHeartbeats 4000000 in
theorem hull_Over (A : Option Addr) (n c : Nat) (zs : List RPoint) (x : Int) (w : World) (h : IsRecs w RPoint.cells RPoint.ok 2 A n c zs) :
    Calls Tryd.prog 5 #[.slice A n c, .int .i64 x] w fun e w' => ∃ v k : Int, e = .returned (.tuple #[.int .i64 v, errV k]) ∧ OverC zs x v k ∧ (-5000000000000 ≤ v ∧ v ≤ 5000000000000) ∧ Below w.heap.size w w' := by
  have CC := Lib.hid (hull_Check A n c zs w h)
  by_cases hc : ptsC zs = 0
  · obtain ⟨q1, q2⟩ := ptsC_0 hc
    have hl := h.1
    have hcap := h.2.2.1
    have hnc := h.2.1
    unfold maxLen at hcap
    have CU := Lib.hid (fun w' (hb : Below w.heap.size w w') => hull_upper A n c zs w' (h.below hb) (by have := h.1; omega) q2)
    have HC := Lib.hid hc
    have HQ := Lib.hid q2
    rw [hc] at CC
    have hn60 : n ≤ 60 := by omega
    have HL := Lib.hid hl
    clear h hc q1 q2 hl
    rcases Nat.eq_zero_or_pos n with h0 | h0
    · subst h0
      have hz := Lib.hid (show OverC zs x 0 5 from .inr ⟨HC.out, .inl ⟨List.length_eq_zero_iff.1 HL.out, rfl, rfl⟩⟩)
      go_enter Tryd.func5, Tryd.ntmps5
      go_wp2_with fail
      refine CC.out.mono ?_
      rintro e w1 ⟨rfl, hb1⟩
      go_wp2_with fail
      refine bodyPost_ret (v := .tuple #[.int .i64 0, .iface 39 (.int .i64 5)]) (by simp [results, Tryd.results5, go_sem]) rfl ?_
      exact ⟨0, 5, rfl, hz.out, by omega, hb1⟩
    · have hne := Lib.hid (show zs ≠ [] from fun e => by have := HL.out; rw [e] at this; simp at this; omega)
      have h0' : (0 : Int) < (n : Int) := by omega
      have h0n : ¬ n = 0 := by omega
      have h0e : ((n : Int) == 0) = false := by simp; omega
      go_enter Tryd.func5, Tryd.ntmps5
      go_wp2_with fail
      refine CC.out.mono ?_
      rintro e w1 ⟨rfl, hb1⟩
      have HB1 := Lib.hid hb1
      clear hb1 CC
      go_wp2_with fail
      refine (CU.out _ HB1.out).mono ?_
      rintro e w2 ⟨cs, A', k', c', rfl, hI, hH, hk, hb2⟩
      have HI := Lib.hid hI
      have HH := Lib.hid hH
      have HB2 := Lib.hid (HB1.out.trans (hb2.mono HB1.out.size))
      obtain ⟨m1, m2, m3, m4, m5⟩ := HI.out
      unfold maxLen at m3
      have hk0 : 0 < k' := by
        have := hH.any hne.out
        rw [← m1]
        exact List.length_pos_iff.2 this
      obtain ⟨b, off, rfl, hb, hcc⟩ := m5 hk0
      obtain ⟨za, hza⟩ : ∃ z, cs[0]? = some z := ⟨_, List.getElem?_eq_getElem (by omega)⟩
      obtain ⟨zb, hzb⟩ : ∃ z, cs[cs.length - 1]? = some z := ⟨_, List.getElem?_eq_getElem (by omega)⟩
      obtain ⟨j, hj⟩ : ∃ j, cs.length - 1 = j := ⟨_, rfl⟩
      have x0 : w2.cell? ⟨b, off, none⟩ = some (.int .i64 za.x) := by have := hcc 0 za hza 0 _ rfl; simpa using this
      have x1 : w2.cell? ⟨b, off + j * 2, none⟩ = some (.int .i64 zb.x) := by have := hcc j zb (by rw [← hj]; exact hzb) 0 _ rfl; simpa using this
      have HZa := Lib.hid hza
      have HZb := Lib.hid hzb
      have t0 : (0 : Int) < (k' : Int) := by omega
      have t1 : (k' : Int) - 1 = (j : Int) := by omega
      have t2 : (0 : Int) ≤ (j : Int) := by omega
      have t3 : (j : Int) < (k' : Int) := by omega
      have t4 := IntWalk.i64_in (j : Int) (by omega)
      have CO := Lib.hid (fun (hf : za.x ≤ x) (hg : x ≤ zb.x) => hull_over (some ⟨b, off, none⟩) k' c' cs x w2 HI.out hH.rise (fun z hz => HQ.out z (hH.sub z hz)) hk0 (by omega) (fun a ha => by rw [hza] at ha; cases ha; exact hf) (fun a ha => by rw [hzb] at ha; cases ha; exact hg))
      clear hI hH hb2 m1 m4 m5 hcc hza hzb hj CU
      by_cases c1 : x < za.x
      · have HOv := Lib.hid (show OverC zs x 0 1 from .inr ⟨HC.out, .inr ⟨hne.out, cs, HH.out, .inl ⟨rfl, rfl, .inl ⟨za, HZa.out, c1⟩⟩⟩⟩)
        go_wp2_with fail
        refine bodyPost_ret (v := .tuple #[.int .i64 0, .iface 39 (.int .i64 1)]) (by simp [results, Tryd.results5, go_sem]) rfl ?_
        exact ⟨0, 1, rfl, HOv.out, by omega, HB2.out⟩
      · by_cases c2 : zb.x < x
        · have HOv := Lib.hid (show OverC zs x 0 1 from .inr ⟨HC.out, .inr ⟨hne.out, cs, HH.out, .inl ⟨rfl, rfl, .inr ⟨zb, HZb.out, c2⟩⟩⟩⟩)
          go_wp2_with fail
          refine bodyPost_ret (v := .tuple #[.int .i64 0, .iface 39 (.int .i64 1)]) (by simp [results, Tryd.results5, go_sem]) rfl ?_
          exact ⟨0, 1, rfl, HOv.out, by omega, HB2.out⟩
        · have CO2 := Lib.hid (CO.out (by omega) (by omega))
          clear CO
          have HFl := Lib.hid (show (∀ a, cs[0]? = some a → a.x ≤ x) ∧ ∀ a, cs[cs.length - 1]? = some a → x ≤ a.x from ⟨fun a ha => by rw [HZa.out] at ha; cases ha; omega, fun a ha => by rw [HZb.out] at ha; cases ha; omega⟩)
          go_wp2_with fail
          refine CO2.out.mono ?_
          rintro e w3 ⟨v, rfl, hv, hvb, hb3⟩
          have HOv := Lib.hid (show OverC zs x v 0 from .inr ⟨HC.out, .inr ⟨hne.out, cs, HH.out, .inr ⟨rfl, HFl.out.1, HFl.out.2, hv⟩⟩⟩)
          have HB3 := Lib.hid (HB2.out.trans (hb3.mono HB2.out.size))
          have HVb := Lib.hid hvb
          clear hv hb3 hvb
          go_wp2_with fail
          refine bodyPost_ret (v := .tuple #[.int .i64 v, .nilIface]) (by simp [results, Tryd.results5, go_sem]) rfl ?_
          exact ⟨v, 0, rfl, HOv.out, HVb.out, HB3.out⟩
  · have HO := Lib.hid (show OverC zs x 0 (ptsC zs) from .inl ⟨hc, rfl, rfl⟩)
    obtain ⟨e0, he0⟩ : ∃ e, ptsC zs = e := ⟨_, rfl⟩
    rw [he0] at CC hc HO
    have hr := Lib.hid (errV_ne hc)
    rw [hr.out] at CC
    clear h he0
    go_enter Tryd.func5, Tryd.ntmps5
    go_wp2_with fail
    refine CC.out.mono ?_
    rintro e w1 ⟨rfl, hb1⟩
    go_wp2_with fail
    refine bodyPost_ret (v := .tuple #[.int .i64 0, .iface 39 (.int .i64 e0)]) (by simp [results, Tryd.results5, go_sem]) rfl ?_
    exact ⟨0, e0, by rw [hr.out], HO.out, by omega, hb1⟩
theorem hull_Under (A : Option Addr) (n c : Nat) (zs : List RPoint) (x : Int) (w : World) (h : IsRecs w RPoint.cells RPoint.ok 2 A n c zs) (hr : n * 16 ≤ 140737488355328) :
    Calls Tryd.prog 8 #[.slice A n c, .int .i64 x] w fun e w' => ∃ v k : Int, e = .returned (.tuple #[.int .i64 (-v), errV k]) ∧ OverC (zs.map flipW) x v k ∧ Below w.heap.size w w' := by
  have CF := Lib.hid (hull_flip A n c zs w h hr)
  clear h
  go_enter Tryd.func8, Tryd.ntmps8
  go_wp2_with fail
  refine CF.out.mono ?_
  rintro e w1 ⟨A', c', rfl, hI, hb1⟩
  have HB1 := Lib.hid hb1
  have CO := Lib.hid (hull_Over A' n c' (zs.map flipW) x w1 hI)
  clear hI hb1
  go_wp2_with fail
  refine CO.out.mono ?_
  rintro e w2 ⟨v, k, rfl, hO, hvb, hb2⟩
  have HO := Lib.hid hO
  have HB2 := Lib.hid (HB1.out.trans (hb2.mono HB1.out.size))
  have hw := IntWalk.i64_in (-v) (by omega)
  obtain ⟨E, hE⟩ : ∃ E, errV k = E := ⟨_, rfl⟩
  rw [hE]
  have HE := Lib.hid hE
  clear hO hb2 hE CO CF
  go_wp2_with fail
  refine bodyPost_ret (v := .tuple #[.int .i64 (-v), E]) (by simp [results, Tryd.results8, go_sem]) rfl ?_
  exact ⟨v, k, by rw [HE.out], HO.out, HB2.out⟩
end Go.Proofs.YtdjkhagdckhijaaDoor
