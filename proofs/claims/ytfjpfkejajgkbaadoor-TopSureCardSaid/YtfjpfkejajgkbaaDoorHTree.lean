/- Trees, by the program and by the reference, walked. -/
import Derived.Test.YtfjpfkejajgkbaaDoorHTreeP
import Derived.Test.YtfjpfkejajgkbaaDoorHEdge
import Derived.Test.YtfjpfkejajgkbaaDoorHG1
namespace Go.Proofs.YtfjpfkejajgkbaaDoor
open Go.RowKit
set_option linter.unusedVariables false
set_option linter.unusedSimpArgs false
theorem inb {n a : Int} (h0 : 0 ≤ a) (h1 : a < n) (x : Nat) (e : a = x) : (x : Int) < n := by omega
set_option maxRecDepth 100000 in
set_option maxHeartbeats 8000000 in
theorem tree_walk (N : Nat) (R : Nat) (A : Option Addr) (n c : Nat) (zs : List REdge) (w : World) (hz : IsRecs w REdge.cells REdge.ok 4 A n c zs) (h1 : 1 ≤ N) (h6 : N ≤ 6) (hR : R < N) (hn : n ≤ 40) (hl : EdgesOk N zs) :
    Calls Tryd.prog 54 #[.int .i64 N, .slice A n c, .int .i64 R] w fun e w' => TwoInts w w' e (tFin zs N R).by_ (tFin zs N R).row := by
  obtain ⟨l1, l2, l3, l4, l5⟩ := hz
  unfold maxLen at l3
  obtain ⟨i0, hi, hz0, hz1, hz2⟩ := info_parts infoI
  have L1 := Lib.hid l1
  have L5 := Lib.hid l5
  have HL := Lib.hid hl
  clear l4 l5 l1 hl
  have mk1 := run_make_row' (P := Tryd.prog) 22 3 (.int .i64 0) 8 Tryd.underlying22 infoI rfl .i64 .i64 N (by omega) (by omega)
  have mk2 := run_make_row' (P := Tryd.prog) 68 4 (.bool false) 1 Tryd.underlying68 infoB rfl .i64 .i64 N (by omega) (by omega)
  rw [made_i] at mk1
  rw [made_b] at mk2
  go_enter Tryd.func54, Tryd.ntmps54
  go_wp2_with fail
  clear mk1 mk2
  go_loopw [10, 22] (fun _ kv wr => ∃ (k : Nat) (xs : List Int), kv = .int .i64 k ∧ k ≤ N ∧ (xs.length = N ∧ ∀ i, i < k → xs[i]? = some (-1)) ∧ Blk wr w.heap.size 3 (ICells xs) ∧ Blk wr (w.heap.size + 1) 4 (BCells (List.replicate N false)) ∧ Below w.heap.size w wr) (fun _ kv _ => N - (intOf kv).toNat)
  case atStart => exact ⟨0, List.replicate N 0, rfl, by omega, ⟨by simp, fun i hi => absurd hi (by omega)⟩, (Blk.new w _ _).alloc _, (by have := Blk.new (w.alloc (.cells (ICells (List.replicate N 0)) 3)) 4 (BCells (List.replicate N false)); simpa using this), (by repeat (first | with_reducible exact Below.refl _ _ | (with_reducible refine Below.alloc ?_ (by first | omega | (simp; done) | (simp; omega)) _) | (with_reducible refine Below.setCell ?_ (by first | omega | (simp; done) | (simp; omega)) _) | (with_reducible refine Below.drew ?_) | (with_reducible refine below_drewN ?_ _) | (with_reducible assumption) | (with_reducible refine bel_step (by with_reducible assumption) ?_ (by first | omega | (simp; done) | (simp; omega)))))⟩
  case round =>
    obtain ⟨k, xs, rfl, hk, ⟨hx1, hx2⟩, hb1, hb2, hB⟩ := hrel
    have HB := Lib.hid hB
    have HB1 := Lib.hid hb1
    have HB2 := Lib.hid hb2
    have HX := Lib.hid hx2
    have hzw := hB.size
    have g1 := hb1.lt
    have g2 := hb2.lt
    have kf := hb1.fz
    clear hB hb2 hx2
    by_cases d1 : k < N
    · obtain ⟨v, hv⟩ : ∃ z, xs[k]? = some z := ⟨_, List.getElem?_eq_getElem (by omega)⟩
      have kc := hb1.iat hv
      have HX1 := Lib.hid hx1
      clear hb1 hv hx1
      go_wp2_with fail
      go_roundw
      case rel => exact ⟨k + 1, xs.set k (-1), by go_num, by omega, ⟨by simp [HX1.out], fun i hi => by
        rw [List.getElem?_set]
        by_cases e : k = i
        · subst e; rw [if_pos rfl, if_pos (by rw [HX1.out]; exact d1)]
        · rw [if_neg e]; exact HX.out i (by omega)⟩, HB1.out.iset _ _, HB2.out.far (by simp) _, HB.out.setCell (by simp) _⟩
      case measure => simp [intOf]; omega
    · obtain rfl : xs = List.replicate N (-1) := by
        apply List.ext_getElem?
        intro i
        rw [List.getElem?_replicate]
        by_cases e : i < N
        · rw [if_pos e]; exact HX.out i (by omega)
        · rw [if_neg e, List.getElem?_eq_none (by omega)]
      have kc := HB2.out.bat (i := R) (v := false) (by rw [List.getElem?_replicate, if_pos hR])
      have kf2 := HB2.out.fz
      clear hb1 hx1 HX kf
      have HO0 : ((wr.setCell ⟨w.heap.size + 1, R, none⟩ (.bool true)).alloc (.cells #[.int .i64 R] 3)).ownsRow wr.heap.size 3 1 (.slice (some ⟨wr.heap.size, 0, none⟩) 1 1) [(R : Int)].length ([(R : Int)].flatMap intCells) := by
        have := World.ownsRow_lit (base := wr.heap.size) (e := 3) (size := 1) (wr.setCell ⟨w.heap.size + 1, R, none⟩ (.bool true)) #[.int .i64 R] 1 (by simp) (by unfold maxLen; omega) rfl
        simpa [intCells] using this
      have HO0 := Lib.hid HO0
      have hgin : (wr.setCell ⟨w.heap.size + 1, R, none⟩ (.bool true)).heap.size = wr.heap.size := by simp
      have HG1 := Lib.hid ((HB1.out.far (p := ⟨w.heap.size + 1, R, none⟩) (by simp) (.bool true)).alloc (.cells #[.int .i64 R] 3))
      have HG2 := Lib.hid ((HB2.out.bset R true).alloc (.cells #[.int .i64 R] 3))
      have HBB := Lib.hid ((HB.out.setCell (p := ⟨w.heap.size + 1, R, none⟩) (by simp) (.bool true)).alloc (by simp; omega) (.cells #[.int .i64 R] 3))
      obtain ⟨B0, hB0⟩ : ∃ B0, wr.heap.size = B0 := ⟨_, rfl⟩
      rw [hB0] at HO0 g1 g2 hzw
      have G1 := g1
      have G2 := g2
      have HB0 := Lib.hid hB0
      clear hgin HB HB1 HB2
      clear hB0
      go_wp2_with fail
      clear kc kf2
      rw [HB0.out]
      go_loopw [11, 12] (fun rv iv wx => ∃ (i : Nat), iv = .int .i64 i ∧ i ≤ (tSt zs N R i).row.length ∧ Blk wx w.heap.size 3 (ICells (tSt zs N R i).by_) ∧ Blk wx (w.heap.size + 1) 4 (BCells (tSt zs N R i).inn) ∧ wx.ownsRow B0 3 1 rv (tSt zs N R i).row.length ((tSt zs N R i).row.flatMap intCells) ∧ B0 ≤ wx.heap.size ∧ Below w.heap.size w wx) (fun _ iv _ => N - (intOf iv).toNat)
      case atStart => exact ⟨0, rfl, by simp, HG1.out, HG2.out, HO0.out, by simp [HB0.out], HBB.out⟩
      case round =>
        obtain ⟨i, rfl, hi1, hb1, hb2, ho, hzx, hB⟩ := hrel
        have hT := TOk.st (l := zs) hR HL.out i
        have hlen := hT.len
        have hpos := hT.pos
        obtain ⟨s, hs⟩ : ∃ s, tSt zs N R i = s := ⟨_, rfl⟩
        rw [hs] at hi1 hb1 hb2 ho hT hlen hpos
        have HS := Lib.hid hs
        have HT := Lib.hid hT
        have HB := Lib.hid hB
        have HB1 := Lib.hid hb1
        have HB2 := Lib.hid hb2
        have HO := Lib.hid ho
        clear hs hT hB hb1 hb2 ho HO0 HG1 HG2 HBB
        by_cases d1 : i < s.row.length
        · obtain ⟨r, hr⟩ : ∃ r, s.row[i]? = some r := ⟨_, List.getElem?_eq_getElem d1⟩
          have HR := Lib.hid hr
          have hrb := HT.out.rb r (List.mem_of_getElem? hr)
          obtain ⟨r0, r1⟩ := hrb
          obtain ⟨q, cap, rfl, q1, q2, q3, q4, q5⟩ := own_ints HO.out (by omega)
          have d2 : (i : Int) < (s.row.length : Int) := by omega
          clear q5 q4 q3 q2 q1 hr
          go_wp2_with fail
          obtain ⟨wo, rfl⟩ : ∃ wo : World, wo = wr := ⟨_, rfl⟩
          have HSS := Lib.hid (show tSt zs N R (i + 1) = tUpto zs r n s from by rw [tSt_succ (r := r) (by rw [HS.out]; exact HR.out), HS.out, L1.out])
          go_loopw [11, 42] (fun rv kv wx => ∃ (k : Nat), kv = .int .i64 k ∧ k ≤ n ∧ Blk wx w.heap.size 3 (ICells (tUpto zs r k s).by_) ∧ Blk wx (w.heap.size + 1) 4 (BCells (tUpto zs r k s).inn) ∧ wx.ownsRow B0 3 1 rv (tUpto zs r k s).row.length ((tUpto zs r k s).row.flatMap intCells) ∧ B0 ≤ wx.heap.size ∧ Below w.heap.size w wx) (fun _ kv _ => n - (intOf kv).toNat)
          case atStart => exact ⟨0, rfl, by omega, HB1.out, HB2.out, HO.out, hzx, HB.out⟩
          case round =>
            obtain ⟨k, rfl, hk, hb1, hb2, ho, hzy, hB⟩ := hrel
            have hT := HT.out.upto HL.out r k
            have hlen2 := hT.len
            have hpos2 := hT.pos
            have hat := tUpto_at (l := zs) HR.out k
            obtain ⟨s2, hs⟩ : ∃ s2, tUpto zs r k s = s2 := ⟨_, rfl⟩
            rw [hs] at hb1 hb2 ho hT hlen2 hpos2 hat
            have HS2 := Lib.hid hs
            have HT2 := Lib.hid hT
            have HB := Lib.hid hB
            have HB1 := Lib.hid hb1
            have HB2 := Lib.hid hb2
            have HO := Lib.hid ho
            have HAT := Lib.hid hat
            have g1 := hb1.lt
            have g2 := hb2.lt
            have kf1 := hb1.fz
            have kf2 := hb2.fz
            have hzw := hB.size
            clear hs hT hB hb1 hb2 ho hat
            by_cases d3 : k < n
            · obtain ⟨b, off, rfl, hb, hc⟩ := L5.out (by omega)
              obtain ⟨z, hz⟩ : ∃ z, zs[k]? = some z := ⟨_, List.getElem?_eq_getElem (by rw [L1.out]; omega)⟩
              have x0 := (HB.out.cell (p := ⟨b, off + k * 4, none⟩) hb).trans (hc k z hz 0 _ rfl)
              have x1 := (HB.out.cell (p := ⟨b, off + k * 4 + 1, none⟩) hb).trans (hc k z hz 1 _ rfl)
              have x2 := (HB.out.cell (p := ⟨b, off + k * 4 + 2, none⟩) hb).trans (hc k z hz 2 _ rfl)
              have x3 := (HB.out.cell (p := ⟨b, off + k * 4 + 3, none⟩) hb).trans (hc k z hz 3 _ rfl)
              have n2' : b < wr.heap.size := by omega
              have k0 : (0 : Int) ≤ (k : Int) := by omega
              have k1 : (k : Int) < (n : Int) := by omega
              have HZ := Lib.hid hz
              have hed := HL.out z (List.mem_of_getElem? hz)
              have HU := Lib.hid ((tUpto_succ (r := r) (s := s) hz).trans (by rw [HS2.out]))
              have HNW := Lib.hid (fun r => tNew_iff HT2.out HL.out (List.mem_of_getElem? hz) (r := r))
              obtain ⟨q, cap, rfl, q1, q2, q3, q4, q5⟩ := own_ints HO.out (by omega)
              have y0 : wr.cell? ⟨q, i, none⟩ = some (.int .i64 r) := q5 i r HAT.out
              have d4 : (i : Int) < (s2.row.length : Int) := by have := (List.getElem?_eq_some_iff.1 HAT.out).1; omega
              have d5 : (0 : Int) ≤ (i : Int) := by omega
              obtain ⟨za, zb, zl, zh⟩ := z
              unfold edgeB at hed
              obtain ⟨ea, eb, ec, ed, ee, ef, eg, eh⟩ := hed
              dsimp only at ea eb ec ed ee ef eg eh
              dsimp only [REdge.cells] at x0 x1 x2 x3
              clear hc hz q5
              by_cases c1 : zb = r
              · have c2 : za ≠ r := by omega
                obtain ⟨bo, hbo⟩ : ∃ bo, s2.inn[za.toNat]? = some bo := ⟨_, List.getElem?_eq_getElem (by rw [HT2.out.il]; omega)⟩
                have yb := HB2.out.bat hbo
                have HM := Lib.hid (HT2.out.mem za.toNat)
                have HTO := Lib.hid (show tTo r ⟨za, zb, zl, zh⟩ = za from by simp [tTo, c1, c2])
                have HBO := Lib.hid hbo
                have t0 : (0 : Int) ≤ za := by omega
                have t1 : za < (N : Int) := by omega
                have c3 : (zb == r) = true := by simpa using c1
                have c4 : (za == r) = false := by simpa using c2
                clear c1 c2
                clear hbo
                cases bo with
                | true =>
                  have HK := Lib.hid (show tUpto zs r (k + 1) s = s2 from by
                    rw [HU.out]; unfold tStep; rw [if_neg (fun h => by
                      have h2 := ((HNW.out r).1 h).2
                      rw [HTO.out] at h2
                      have h3 := HM.out.1 HBO.out
                      rw [Int.toNat_of_nonneg t0] at h3
                      exact h2 h3)])
                  go_wp2_with fail
                  go_quiet (fail)
                  go_wp2_with fail
                  go_quiet (fail)
                  go_wp2_with fail
                  go_roundw
                  case rel => exact ⟨k + 1, by go_num, by omega, by rw [HK.out]; exact (HB1.out.alloc _).drewN _, by rw [HK.out]; exact (HB2.out.alloc _).drewN _, by rw [HK.out]; exact own_below HO.out (by repeat (first | with_reducible exact Below.refl _ _ | (with_reducible refine Below.alloc ?_ (by first | omega | (simp; done) | (simp; omega)) _) | (with_reducible refine Below.setCell ?_ (by first | omega | (simp; done) | (simp; omega)) _) | (with_reducible refine Below.drew ?_) | (with_reducible refine below_drewN ?_ _) | (with_reducible assumption) | (with_reducible refine bel_step (by with_reducible assumption) ?_ (by first | omega | (simp; done) | (simp; omega))))), by simp; omega, by have := HB.out; exact (by repeat (first | with_reducible exact Below.refl _ _ | (with_reducible refine Below.alloc ?_ (by first | omega | (simp; done) | (simp; omega)) _) | (with_reducible refine Below.setCell ?_ (by first | omega | (simp; done) | (simp; omega)) _) | (with_reducible refine Below.drew ?_) | (with_reducible refine below_drewN ?_ _) | (with_reducible assumption) | (with_reducible refine bel_step (by with_reducible assumption) ?_ (by first | omega | (simp; done) | (simp; omega)))))⟩
                  case measure => simp [intOf]; omega
                | false =>
                  have HK := Lib.hid (show tUpto zs r (k + 1) s = ⟨s2.by_.set za.toNat k, s2.inn.set za.toNat true, s2.row ++ [za]⟩ from by
                    rw [HU.out]; unfold tStep; rw [if_pos ((HNW.out r).2 (by
                      rw [HTO.out]; refine ⟨t0, fun h3 => ?_⟩
                      have h4 := HM.out.2 (by rw [Int.toNat_of_nonneg t0]; exact h3)
                      rw [HBO.out] at h4; cases h4)), HTO.out])
                  obtain ⟨vb, hvb⟩ : ∃ vb, s2.by_[za.toNat]? = some vb := ⟨_, List.getElem?_eq_getElem (by rw [HT2.out.bl]; omega)⟩
                  have yv := HB1.out.iat hvb
                  clear hvb
                  have hT3 := HT2.out.step HL.out HZ.out r
                  rw [← HU.out, HK.out] at hT3
                  have hlen3 := hT3.len
                  simp at hlen3
                  clear hT3
                  go_wp2_with fail
                  go_quiet (fail)
                  go_wp2_with fail
                  go_quiet (fail)
                  go_wp2_with (at_builtin; refine wpList_append_own _ rfl _ _ 22 rfl B0 3 i0 (.int .i64 0) 1 8 Tryd.underlying22 hi hz0 hz1 hz2 rfl (by decide) _ _ _ rfl ((own_set (own_set (own_drewN (HO.out.alloc (.cells #[.int .i64 za, .int .i64 zb, .int .i64 zl, .int .i64 zh] 72)) _) (p := ⟨w.heap.size + 1, za.toNat, none⟩) (by simp; omega) (.bool true)) (p := ⟨w.heap.size, za.toNat, none⟩) (by simp; omega) (.int .i64 k)).alloc _) ⟨wr.heap.size + 1, 0, none⟩ 1 1 _ rfl rfl (cell_newAt _ (intCells za) _ _ (by simp)) (int_one za) (by unfold maxLen; omega) (by omega) (by simp; omega) ?_; intro v' w1 ho1 hg1 _)
                  have hz1' := hg1.size
                  simp at hz1'
                  have HG1 := Lib.hid (show Blk w1 w.heap.size 3 (ICells (s2.by_.set za.toNat k)) from Blk.grown ((((((HB1.out.alloc _).drewN _).far (by simp) _).iset _ _)).alloc _) hg1 (fun e => by have e2 : w.heap.size = q := Option.some.inj e; omega))
                  have HG2 := Lib.hid (show Blk w1 (w.heap.size + 1) 4 (BCells (s2.inn.set za.toNat true)) from Blk.grown ((((((HB2.out.alloc _).drewN _).bset _ _).far (by simp) _)).alloc _) hg1 (fun e => by have e2 : w.heap.size + 1 = q := Option.some.inj e; omega))
                  have HBB := Lib.hid (Below.grown (show Below w.heap.size w _ from by have := HB.out; exact (by repeat (first | with_reducible exact Below.refl _ _ | (with_reducible refine Below.alloc ?_ (by first | omega | (simp; done) | (simp; omega)) _) | (with_reducible refine Below.setCell ?_ (by first | omega | (simp; done) | (simp; omega)) _) | (with_reducible refine Below.drew ?_) | (with_reducible refine below_drewN ?_ _) | (with_reducible assumption) | (with_reducible refine bel_step (by with_reducible assumption) ?_ (by first | omega | (simp; done) | (simp; omega)))))) hg1 (by simp; omega) (fun k hk => by have := (HO.out.lt k hk).1; omega))
                  have HO1 := Lib.hid (own_snoc intCells (zs := s2.row) (z := za) ho1)
                  clear ho1 hg1
                  go_wp2_with fail
                  go_roundw
                  case rel => exact ⟨k + 1, by go_num, by omega, by rw [HK.out]; exact HG1.out, by rw [HK.out]; exact HG2.out, by rw [HK.out]; exact HO1.out, by omega, HBB.out⟩
                  case measure => simp [intOf]; omega
              · by_cases c2 : za = r
                · (skip)
                  obtain ⟨bo, hbo⟩ : ∃ bo, s2.inn[zb.toNat]? = some bo := ⟨_, List.getElem?_eq_getElem (by rw [HT2.out.il]; omega)⟩
                  have yb := HB2.out.bat hbo
                  have HM := Lib.hid (HT2.out.mem zb.toNat)
                  have HTO := Lib.hid (show tTo r ⟨za, zb, zl, zh⟩ = zb from by simp [tTo, c2])
                  have HBO := Lib.hid hbo
                  have t0 : (0 : Int) ≤ zb := by omega
                  have t1 : zb < (N : Int) := by omega
                  have c3 : (zb == r) = false := by simpa using c1
                  have c4 : (za == r) = true := by simpa using c2
                  clear c1 c2
                  clear hbo
                  cases bo with
                  | true =>
                    have HK := Lib.hid (show tUpto zs r (k + 1) s = s2 from by
                      rw [HU.out]; unfold tStep; rw [if_neg (fun h => by
                        have h2 := ((HNW.out r).1 h).2
                        rw [HTO.out] at h2
                        have h3 := HM.out.1 HBO.out
                        rw [Int.toNat_of_nonneg t0] at h3
                        exact h2 h3)])
                    go_wp2_with fail
                    go_quiet (fail)
                    go_wp2_with fail
                    go_quiet (fail)
                    go_wp2_with fail
                    go_roundw
                    case rel => exact ⟨k + 1, by go_num, by omega, by rw [HK.out]; exact (HB1.out.alloc _).drewN _, by rw [HK.out]; exact (HB2.out.alloc _).drewN _, by rw [HK.out]; exact own_below HO.out (by repeat (first | with_reducible exact Below.refl _ _ | (with_reducible refine Below.alloc ?_ (by first | omega | (simp; done) | (simp; omega)) _) | (with_reducible refine Below.setCell ?_ (by first | omega | (simp; done) | (simp; omega)) _) | (with_reducible refine Below.drew ?_) | (with_reducible refine below_drewN ?_ _) | (with_reducible assumption) | (with_reducible refine bel_step (by with_reducible assumption) ?_ (by first | omega | (simp; done) | (simp; omega))))), by simp; omega, by have := HB.out; exact (by repeat (first | with_reducible exact Below.refl _ _ | (with_reducible refine Below.alloc ?_ (by first | omega | (simp; done) | (simp; omega)) _) | (with_reducible refine Below.setCell ?_ (by first | omega | (simp; done) | (simp; omega)) _) | (with_reducible refine Below.drew ?_) | (with_reducible refine below_drewN ?_ _) | (with_reducible assumption) | (with_reducible refine bel_step (by with_reducible assumption) ?_ (by first | omega | (simp; done) | (simp; omega)))))⟩
                    case measure => simp [intOf]; omega
                  | false =>
                    have HK := Lib.hid (show tUpto zs r (k + 1) s = ⟨s2.by_.set zb.toNat k, s2.inn.set zb.toNat true, s2.row ++ [zb]⟩ from by
                      rw [HU.out]; unfold tStep; rw [if_pos ((HNW.out r).2 (by
                        rw [HTO.out]; refine ⟨t0, fun h3 => ?_⟩
                        have h4 := HM.out.2 (by rw [Int.toNat_of_nonneg t0]; exact h3)
                        rw [HBO.out] at h4; cases h4)), HTO.out])
                    obtain ⟨vb, hvb⟩ : ∃ vb, s2.by_[zb.toNat]? = some vb := ⟨_, List.getElem?_eq_getElem (by rw [HT2.out.bl]; omega)⟩
                    have yv := HB1.out.iat hvb
                    clear hvb
                    have hT3 := HT2.out.step HL.out HZ.out r
                    rw [← HU.out, HK.out] at hT3
                    have hlen3 := hT3.len
                    simp at hlen3
                    clear hT3
                    go_wp2_with fail
                    go_quiet (fail)
                    go_wp2_with fail
                    go_quiet (fail)
                    go_wp2_with (at_builtin; refine wpList_append_own _ rfl _ _ 22 rfl B0 3 i0 (.int .i64 0) 1 8 Tryd.underlying22 hi hz0 hz1 hz2 rfl (by decide) _ _ _ rfl ((own_set (own_set (own_drewN (HO.out.alloc (.cells #[.int .i64 za, .int .i64 zb, .int .i64 zl, .int .i64 zh] 72)) _) (p := ⟨w.heap.size + 1, zb.toNat, none⟩) (by simp; omega) (.bool true)) (p := ⟨w.heap.size, zb.toNat, none⟩) (by simp; omega) (.int .i64 k)).alloc _) ⟨wr.heap.size + 1, 0, none⟩ 1 1 _ rfl rfl (cell_newAt _ (intCells zb) _ _ (by simp)) (int_one zb) (by unfold maxLen; omega) (by omega) (by simp; omega) ?_; intro v' w1 ho1 hg1 _)
                    have hz1' := hg1.size
                    simp at hz1'
                    have HG1 := Lib.hid (show Blk w1 w.heap.size 3 (ICells (s2.by_.set zb.toNat k)) from Blk.grown ((((((HB1.out.alloc _).drewN _).far (by simp) _).iset _ _)).alloc _) hg1 (fun e => by have e2 : w.heap.size = q := Option.some.inj e; omega))
                    have HG2 := Lib.hid (show Blk w1 (w.heap.size + 1) 4 (BCells (s2.inn.set zb.toNat true)) from Blk.grown ((((((HB2.out.alloc _).drewN _).bset _ _).far (by simp) _)).alloc _) hg1 (fun e => by have e2 : w.heap.size + 1 = q := Option.some.inj e; omega))
                    have HBB := Lib.hid (Below.grown (show Below w.heap.size w _ from by have := HB.out; exact (by repeat (first | with_reducible exact Below.refl _ _ | (with_reducible refine Below.alloc ?_ (by first | omega | (simp; done) | (simp; omega)) _) | (with_reducible refine Below.setCell ?_ (by first | omega | (simp; done) | (simp; omega)) _) | (with_reducible refine Below.drew ?_) | (with_reducible refine below_drewN ?_ _) | (with_reducible assumption) | (with_reducible refine bel_step (by with_reducible assumption) ?_ (by first | omega | (simp; done) | (simp; omega)))))) hg1 (by simp; omega) (fun k hk => by have := (HO.out.lt k hk).1; omega))
                    have HO1 := Lib.hid (own_snoc intCells (zs := s2.row) (z := zb) ho1)
                    clear ho1 hg1
                    go_wp2_with fail
                    go_roundw
                    case rel => exact ⟨k + 1, by go_num, by omega, by rw [HK.out]; exact HG1.out, by rw [HK.out]; exact HG2.out, by rw [HK.out]; exact HO1.out, by omega, HBB.out⟩
                    case measure => simp [intOf]; omega
                · have HTO := Lib.hid (show tTo r ⟨za, zb, zl, zh⟩ = -1 from by simp [tTo, c1, c2])
                  have HK := Lib.hid (show tUpto zs r (k + 1) s = s2 from by
                    rw [HU.out]; unfold tStep; rw [if_neg (fun h => by
                      have h2 := ((HNW.out r).1 h).1
                      rw [HTO.out] at h2
                      omega)])
                  have c3 : (zb == r) = false := by simpa using c1
                  have c4 : (za == r) = false := by simpa using c2
                  clear c1 c2
                  go_wp2_with fail
                  go_quiet (fail)
                  go_wp2_with fail
                  go_quiet (fail)
                  go_wp2_with fail
                  go_roundw
                  case rel => exact ⟨k + 1, by go_num, by omega, by rw [HK.out]; exact (HB1.out.alloc _).drewN _, by rw [HK.out]; exact (HB2.out.alloc _).drewN _, by rw [HK.out]; exact own_below HO.out (by repeat (first | with_reducible exact Below.refl _ _ | (with_reducible refine Below.alloc ?_ (by first | omega | (simp; done) | (simp; omega)) _) | (with_reducible refine Below.setCell ?_ (by first | omega | (simp; done) | (simp; omega)) _) | (with_reducible refine Below.drew ?_) | (with_reducible refine below_drewN ?_ _) | (with_reducible assumption) | (with_reducible refine bel_step (by with_reducible assumption) ?_ (by first | omega | (simp; done) | (simp; omega))))), by simp; omega, by have := HB.out; exact (by repeat (first | with_reducible exact Below.refl _ _ | (with_reducible refine Below.alloc ?_ (by first | omega | (simp; done) | (simp; omega)) _) | (with_reducible refine Below.setCell ?_ (by first | omega | (simp; done) | (simp; omega)) _) | (with_reducible refine Below.drew ?_) | (with_reducible refine below_drewN ?_ _) | (with_reducible assumption) | (with_reducible refine bel_step (by with_reducible assumption) ?_ (by first | omega | (simp; done) | (simp; omega)))))⟩
                  case measure => simp [intOf]; omega
            · obtain rfl : k = n := by omega
              go_wp2_with fail
              go_roundw
              case rel => exact ⟨i + 1, by go_num, by rw [HSS.out, HS2.out]; have h3 := (List.getElem?_eq_some_iff.1 HAT.out).1; omega, by rw [HSS.out, HS2.out]; exact HB1.out, by rw [HSS.out, HS2.out]; exact HB2.out, by rw [HSS.out, HS2.out]; exact HO.out, hzy, HB.out⟩
              case measure => simp [intOf]; omega
        · have hfin := tSt_end (l := zs) (n := N) (root := R) (i := i) (by rw [HS.out]; omega) (by omega)
          rw [HS.out] at hfin
          have HF := Lib.hid hfin
          obtain ⟨q, cap, rfl, q1, q2, q3, q4, q5⟩ := own_ints HO.out (by omega)
          have d2 : ¬ (i : Int) < (s.row.length : Int) := by omega
          obtain ⟨A9, n9, c9, e9, h9⟩ := own_recs intCells i64B 1 (fun _ => rfl) HO.out (fun x hx => by have := HT.out.rb x hx; unfold i64B; omega)
          have H9 := Lib.hid h9
          have E9 := Lib.hid e9
          clear q5 q4 q3 q2 q1 hfin e9 h9
          go_wp2_with fail
          refine bodyPost_ret (v := .tuple #[.slice (some ⟨w.heap.size, 0, none⟩) N N, .slice (some ⟨q, 0, none⟩) s.row.length cap]) (by simp [results, Tryd.results54, go_sem]) rfl ?_
          refine ⟨some ⟨w.heap.size, 0, none⟩, N, N, A9, n9, c9, by rw [← E9.out], ?_, ?_, HB.out⟩
          · rw [← HF.out]; exact HB1.out.ints HT.out.bl (by unfold maxLen; omega) (fun x hx => by have := HT.out.bb x hx; have := L1.out; unfold i64B; omega)
          · rw [← HF.out]; exact H9.out
def treeC (n : Int) (l : List REdge) (root : Int) : Int := if edgesC n l = 0 then (if nodeB n root = true then 0 else 1) else edgesC n l
theorem treeC_0 {n : Int} {l : List REdge} {root : Int} (h : treeC n l root = 0) : edgesC n l = 0 ∧ 0 ≤ root ∧ root < n := by
  unfold treeC at h
  by_cases c : edgesC n l = 0
  · rw [if_pos c] at h
    by_cases d : nodeB n root = true
    · exact ⟨c, (nodeB_iff.1 d).1, (nodeB_iff.1 d).2⟩
    · rw [if_neg d] at h; omega
  · rw [if_neg c] at h; exact absurd h c
def parD (n : Int) (l : List REdge) (root : Int) : List Int := if treeC n l root = 0 then (tFin l n.toNat root.toNat).by_ else []
theorem tree_ready (N : Int) (A : Option Addr) (n c : Nat) (zs : List REdge) (R : Int) (w : World) (hz : IsRecs w REdge.cells REdge.ok 4 A n c zs) :
    Calls Tryd.prog 53 #[.int .i64 N, .slice A n c, .int .i64 R] w fun e w' => e = .returned (errV (treeC N zs R)) ∧ Below w.heap.size w w' := by
  have HZ := Lib.hid hz
  have hm : n ≤ c ∧ c ≤ maxLen := ⟨hz.2.1, hz.2.2.1⟩
  obtain ⟨hm1, hm2⟩ := hm
  unfold maxLen at hm2
  clear hz
  by_cases c0 : edgesC N zs = 0
  · have C := Lib.hid (bounds_Check N A n c zs w HZ.out)
    rw [c0] at C
    by_cases c1 : nodeB N R = true
    · have s1 := Lib.hid (show treeC N zs R = 0 by simp [treeC, c0, c1])
      clear c0
      go_enter Tryd.func53, Tryd.ntmps53
      go_wp2_with fail
      refine C.out.mono ?_
      rintro e w1 ⟨rfl, hb1⟩
      go_wp2_with (go_at_call 34; refine (Node_any _ _ _).mono ?_; rintro e w' ⟨rfl, rfl⟩)
      go_ret
      exact ⟨by rw [s1.out]; rfl, hb1⟩
    · have s1 := Lib.hid (show treeC N zs R = 1 by simp [treeC, c0, c1])
      have c2 : nodeB N R = false := by simpa using c1
      clear c0 c1
      go_enter Tryd.func53, Tryd.ntmps53
      go_wp2_with fail
      refine C.out.mono ?_
      rintro e w1 ⟨rfl, hb1⟩
      go_wp2_with (go_at_call 34; refine (Node_any _ _ _).mono ?_; rintro e w' ⟨rfl, rfl⟩)
      go_ret
      exact ⟨by rw [s1.out]; rfl, hb1⟩
  · have s1 := Lib.hid (show treeC N zs R = edgesC N zs by simp [treeC, c0])
    have C := Lib.hid (bounds_Check N A n c zs w HZ.out)
    rw [errV_ne c0] at C
    have c0 := Lib.hid c0
    go_enter Tryd.func53, Tryd.ntmps53
    go_wp2_with fail
    refine C.out.mono ?_
    rintro e w1 ⟨rfl, hb1⟩
    go_wp2_with fail
    go_ret
    exact ⟨by rw [s1.out, errV_ne c0.out]; rfl, hb1⟩
end Go.Proofs.YtfjpfkejajgkbaaDoor
