/- noonref1.Upper, walked. -/
import Derived.Test.YtdjkhagdckhijaaDoorHullV
namespace Go.Proofs.YtdjkhagdckhijaaDoor
open Go.RowKit
set_option linter.unusedVariables false
set_option linter.unusedSimpArgs false
/-- while corners are put in order: i points were seen. -/
structure UpSt (zs : List RPoint) (i : Nat) (S : List RPoint) : Prop where
  rise : RiseX S
  mem : ∀ p, p ∈ S ↔ p ∈ zs.take i ∧ CornerP zs p
theorem mem_take_snoc {zs : List RPoint} {i : Nat} {z p : RPoint} (hz : zs[i]? = some z) : p ∈ zs.take (i + 1) ↔ p ∈ zs.take i ∨ p = z := by
  rw [List.take_add_one, hz]; simp
theorem UpSt.skip {zs S : List RPoint} {i : Nat} {z : RPoint} (h : UpSt zs i S) (hz : zs[i]? = some z) (hn : ¬ CornerP zs z ∨ z ∈ S) : UpSt zs (i + 1) S := by
  refine ⟨h.rise, fun p => ?_⟩
  rw [mem_take_snoc hz, h.mem]
  constructor
  · exact fun q => ⟨.inl q.1, q.2⟩
  · rintro ⟨q | rfl, q2⟩
    · exact ⟨q, q2⟩
    · rcases hn with hn | hn
      · exact absurd q2 hn
      · exact (h.mem _).1 hn
theorem UpSt.same {zs S : List RPoint} {i : Nat} {z q : RPoint} (h : UpSt zs i S) (hz : zs[i]? = some z) (hc : CornerP zs z) (hq : q ∈ S) (e : q.x = z.x) : z ∈ S := by
  obtain ⟨q1, q2⟩ := (h.mem q).1 hq
  have m1 := List.mem_of_mem_take q1
  have h1 := hc.1 q m1 e
  have h2 := q2.1 z (List.mem_of_getElem? hz) e.symm
  have : q = z := by cases q; cases z; simp at e h1 h2 ⊢; exact ⟨e, by omega⟩
  rw [← this]; exact hq
theorem UpSt.ins {zs S : List RPoint} {i k : Nat} {z : RPoint} (h : UpSt zs i S) (hz : zs[i]? = some z) (hc : CornerP zs z) (hlt : ∀ (j : Nat) q, j < k → S[j]? = some q → q.x < z.x) (hge : ∀ q, S[k]? = some q → z.x < q.x) : UpSt zs (i + 1) (S.take k ++ z :: S.drop k) := by
  have hd : ∀ q ∈ S.drop k, z.x < q.x := fun q hq => by
    obtain ⟨j, hj⟩ := idx_of hq
    rw [List.getElem?_drop] at hj
    obtain ⟨y, hk⟩ : ∃ y, S[k]? = some y := ⟨_, List.getElem?_eq_getElem (by have := (List.getElem?_eq_some_iff.1 hj).1; omega)⟩
    have h1 := hge _ hk
    rcases Nat.eq_zero_or_pos j with h0 | h0
    · subst h0
      rw [Nat.add_zero] at hj
      exact hge q hj
    · have := rise_at h.rise hk hj (by omega); omega
  have ht : ∀ q ∈ S.take k, q.x < z.x := fun q hq => by
    obtain ⟨j, hj⟩ := idx_of hq
    have hl := (List.getElem?_eq_some_iff.1 hj).1
    rw [List.length_take] at hl
    rw [List.getElem?_take, if_pos (by omega)] at hj
    exact hlt j q (by omega) hj
  refine ⟨List.pairwise_append.2 ⟨h.rise.sublist (List.take_sublist _ _), List.pairwise_cons.2 ⟨fun q hq => hd q hq, h.rise.sublist (List.drop_sublist _ _)⟩, fun a ha b hb => ?_⟩, fun p => ?_⟩
  · have h1 := ht a ha
    rcases List.mem_cons.1 hb with rfl | hb
    · exact h1
    · have := hd b hb; omega
  · rw [mem_take_snoc hz]
    have hs : p ∈ S.take k ++ z :: S.drop k ↔ p ∈ S ∨ p = z := by
      conv => rhs; rw [← List.take_append_drop k S]
      simp only [List.mem_append, List.mem_cons]
      constructor
      · rintro (a | a | a)
        · exact .inl (.inl a)
        · exact .inr a
        · exact .inl (.inr a)
      · rintro ((a | a) | a)
        · exact .inl a
        · exact .inr (.inr a)
        · exact .inr (.inl a)
    rw [hs, h.mem]
    constructor
    · rintro (⟨q1, q2⟩ | rfl)
      · exact ⟨.inl q1, q2⟩
      · exact ⟨.inr rfl, hc⟩
    · rintro ⟨q1 | rfl, q2⟩
      · exact .inl ⟨q1, q2⟩
      · exact .inr rfl
theorem UpSt.len {zs S : List RPoint} {i : Nat} (h : UpSt zs i S) : ∀ p ∈ S, p ∈ zs := fun p hp => List.mem_of_mem_take ((h.mem p).1 hp).1
/-- the corners, in order, are the hull's. -/
theorem UpSt.hull {zs S c : List RPoint} (h : UpSt zs zs.length S) (g : IsHull zs c) : S = c :=
  rise_same h.rise g.rise fun p => by rw [h.mem, hull_corner g, List.take_of_length_le (Nat.le_refl _)]
set_option maxRecDepth 100000 in
set_option maxHeartbeats 16000000 in
theorem r1_UpperH (A : Option Addr) (n c : Nat) (zs : List RPoint) (w : World) (h : IsRecs w RPoint.cells RPoint.ok 2 A n c zs) (h60 : n ≤ 60) (hb : ∀ z ∈ zs, ptB z = true) :
    Calls Tryd.prog 11 #[.slice A n c] w fun e w' => ∃ A' m c' S, e = .returned (.slice A' m c') ∧ IsRecs w' RPoint.cells RPoint.ok 2 A' m c' S ∧ UpSt zs zs.length S ∧ m ≤ n ∧ Below w.heap.size w w' := by
  obtain ⟨i0, hi, hz0, hz1, hz2⟩ := info_parts infoPt
  have H := Lib.hid h
  have hnc := h.2.1
  have hcm := h.2.2.1
  unfold maxLen at hcm
  have HPb := Lib.hid hb
  clear h hb
  go_enter Tryd.func11, Tryd.ntmps11
  go_wp2_with fail
  go_loopw [3, 4] (fun ov iv wr => ∃ (i m : Nat) (AO : Option Addr) (cO : Nat) (S : List RPoint), iv = .int .i64 i ∧ i ≤ n ∧ ov = .slice AO m cO ∧ S.length = m ∧ m ≤ i ∧ (m = 0 → ov = .slice none 0 0) ∧ UpSt zs i S ∧ wr.ownsRow w.heap.size 29 2 ov m (S.flatMap RPoint.cells) ∧ Below w.heap.size w wr) (fun _ iv _ => n - (intOf iv).toNat)
  case atStart => exact ⟨0, 0, none, 0, [], rfl, by omega, rfl, rfl, Nat.le_refl _, fun _ => rfl, ⟨by simp [RiseX], fun p => by simp⟩, own_nil _ _ _ _, Below.refl _ _⟩
  case round =>
    obtain ⟨i, m, AO, cO, S, rfl, hi', rfl, hSl, hmi, hov, hU, ho, hB⟩ := hrel
    obtain ⟨wo, hwo⟩ : ∃ wo, wo = wr := ⟨_, rfl⟩
    subst hwo
    have HO := Lib.hid ho
    have HB := Lib.hid hB
    have HU := Lib.hid hU
    have HSl := Lib.hid hSl
    have hzw := hB.size
    clear ho hB hU
    by_cases d1 : i < n
    · obtain ⟨b, off, rfl, hbl, hc⟩ := H.out.2.2.2.2 (by omega)
      obtain ⟨z, hz⟩ : ∃ z, zs[i]? = some z := ⟨_, List.getElem?_eq_getElem (by rw [H.out.1]; omega)⟩
      have HX := Lib.hid (fun (W : World) (hb' : Below w.heap.size w W) => show W.cell? ⟨b, off + i * 2, none⟩ = some (.int .i64 z.x) ∧ W.cell? ⟨b, off + i * 2 + 1, none⟩ = some (.int .i64 z.y) from ⟨(hb'.cell (p := ⟨b, off + i * 2, none⟩) hbl).trans (hc i z hz 0 _ rfl), (hb'.cell (p := ⟨b, off + i * 2 + 1, none⟩) hbl).trans (hc i z hz 1 _ rfl)⟩)
      obtain ⟨x0, x1⟩ := HX.out wo HB.out
      have HZ := Lib.hid hz
      have t0 : (0 : Int) ≤ (i : Int) := by omega
      have t1 : (i : Int) < (n : Int) := by omega
      have kb0 : b < wo.heap.size := by omega
      have CC := Lib.hid (r1_corner (some ⟨b, off, none⟩) n c zs z wo (H.out.below HB.out) HPb.out (HPb.out z (List.mem_of_getElem? hz)))
      clear hc hz
      go_wp2_with fail
      refine CC.out.mono ?_
      rintro e w5 ⟨r, rfl, hr, hb5⟩
      have HR := Lib.hid hr
      have HB5 := Lib.hid (HB.out.trans (hb5.mono hzw))
      have HO5 := Lib.hid (own_below HO.out hb5)
      have hz5 := HB5.out.size
      obtain ⟨x0, x1⟩ := HX.out w5 HB5.out
      have kb : b < w5.heap.size := by omega
      clear hr hb5 HO HB CC kb0 hzw
      by_cases d2 : m = 0
      · have hv := hov d2
        cases hv
        obtain rfl : S = [] := List.length_eq_zero_iff.1 HSl.out
        clear hov d2
        cases r
        · have HU2 := Lib.hid (HU.out.skip HZ.out (.inl (fun q => by have := HR.out.2 q; cases this)))
          go_wp2_with fail
          refine wp_loop_rounds 1 ?_
          rw [rounds_succ]
          have k0 : decide ((0 : Int) < 0) = false := rfl
          go_wp2_with fail
          go_quiet (fail)
          go_wp2_with fail
          go_quiet (fail)
          go_wp2_with fail
          go_roundw
          case rel => exact ⟨i + 1, 0, none, 0, [], by go_num, by omega, rfl, rfl, by omega, fun _ => rfl, HU2.out, own_nil _ _ _ _, by have hB := HB5.out; exact (by repeat (first | with_reducible exact Below.refl _ _ | (with_reducible refine Below.alloc ?_ (by first | omega | (simp; done) | (simp; omega)) _) | (with_reducible refine Below.setCell ?_ (by first | omega | (simp; done) | (simp; omega)) _) | (with_reducible refine Below.drew ?_) | (with_reducible refine below_drewN ?_ _) | (with_reducible assumption) | (with_reducible refine bel_step (by with_reducible assumption) ?_ (by first | omega | (simp; done) | (simp; omega)))))⟩
          case measure => go_light; simp [intOf]; omega
        · have HU2 := Lib.hid (HU.out.ins (k := 0) HZ.out (HR.out.1 rfl) (fun j q hj => absurd hj (by omega)) (fun q hq => by simp at hq))
          go_wp2_with fail
          refine wp_loop_rounds 1 ?_
          rw [rounds_succ]
          have k0 : decide ((0 : Int) < 0) = false := rfl
          go_wp2_with fail
          go_quiet (fail)
          go_wp2_with fail
          go_quiet (fail)
          go_upto_region 13 with (at_builtin; refine wpList_append_own _ rfl _ _ 27 rfl w5.heap.size 29 i0 (.agg #[.int .i64 0, .int .i64 0]) 2 16 Tryd.underlying27 hi hz0 hz1 hz2 rfl (by decide) (.slice none 0 0) 0 [] rfl (own_nil _ _ _ _) ⟨w5.heap.size, 0, none⟩ 1 1 (RPoint.cells z) rfl rfl (cell_newAt _ (RPoint.cells z) _ _ rfl) (point_one z) (by unfold maxLen; omega) (by omega) (by simp) ?_; intro v1 w6 ho1 hg1 _)
          have HO1 := Lib.hid (show w6.ownsRow w5.heap.size 29 2 v1 1 ([z].flatMap RPoint.cells) by simpa using ho1)
          have HB6 := Lib.hid (show Below w5.heap.size w5 w6 by
            refine Below.grown ?_ hg1 (by simp) (fun k hk => by cases hk)
            exact (below_drewN (Below.refl w5.heap.size w5) _).alloc (by simp) _)
          clear ho1 hg1
          go_wp2_with (at_builtin; refine wpList_append_recs RPoint.cells RPoint.ok 2 (fun _ => rfl) point_one _ rfl _ _ 27 rfl w5.heap.size 29 i0 _ 16 Tryd.underlying27 hi hz0 hz1 hz2 rfl (by decide) v1 _ _ rfl HO1.out none 0 0 [] rfl ⟨rfl, Nat.le_refl _, by unfold maxLen; omega, by simp, fun h => absurd h (by omega)⟩ (by unfold maxLen; omega) (by omega) HB6.out.size ?_; intro v2 w7 ho2 hg2)
          have HB7 := Lib.hid (show Below w.heap.size w w7 from HB5.out.trans ((HB6.out.grown hg2 HB6.out.size (fun k hk => (HO1.out.lt k hk).1)).mono hz5))
          have HO2 := Lib.hid (show w7.ownsRow w.heap.size 29 2 v2 1 ([z].flatMap RPoint.cells) from own_weakP (by simpa using ho2) hz5)
          clear ho2 hg2 HO1 HB6
          obtain ⟨g9, c9, rfl⟩ : ∃ g9 c9, v2 = .slice (some ⟨g9, 0, none⟩) 1 c9 := by
            rcases HO2.out.2 with ⟨_, h⟩ | ⟨g', cp, cur, he, _⟩
            · omega
            · exact ⟨g', cp, he⟩
          go_wp2_with fail
          go_roundw
          case rel => exact ⟨i + 1, 1, some ⟨g9, 0, none⟩, c9, [z], by go_num, by omega, rfl, rfl, by omega, fun h => absurd h (by omega), by simpa using HU2.out, HO2.out, HB7.out⟩
          case measure => go_light; simp [intOf]; omega
      · clear hov
        obtain ⟨q, cap, e, hql, hmc, hcap⟩ : ∃ q cap, Value.slice AO m cO = .slice (some ⟨q, 0, none⟩) m cap ∧ q < w5.heap.size ∧ m ≤ cap ∧ cap ≤ maxLen := by
          rcases HO5.out.2 with ⟨_, h⟩ | ⟨g', cp, cur, he, _, hg, h1, h2, _⟩
          · omega
          · exact ⟨g', cp, he, (Array.getElem?_eq_some_iff.1 hg).1, h1, h2⟩
        rw [e] at HO5 ⊢
        unfold maxLen at hcap
        have HI5 := Lib.hid (show IsRecs w5 RPoint.cells RPoint.ok 2 (some ⟨q, 0, none⟩) m cap S by
          obtain ⟨A9, n9, c9, he9, hI⟩ := own_recs RPoint.cells RPoint.ok 2 (fun _ => rfl) (zs := S) (by rw [HSl.out]; exact HO5.out) (fun z hz => by
            have := ptB_iff.1 (HPb.out z (HU.out.len z hz))
            unfold RPoint.ok i64B; omega)
          cases he9
          exact hI)
        have hm0 : 0 < m := by omega
        clear e d2
        go_upto_block 2 with fail
        go_cut [6] (fun kv wx => ∃ k d : Nat, kv = .int .i64 k ∧ k ≤ m ∧ (∀ (j : Nat) y, j < k → S[j]? = some y → y.x < z.x) ∧ (∀ y, S[k]? = some y → z.x ≤ y.x) ∧ wx = w5.drewN d)
        case first =>
          go_wp2_with fail
          go_loopw [6] (fun kv wx => ∃ k d : Nat, kv = .int .i64 k ∧ k ≤ m ∧ (∀ (j : Nat) y, j < k → S[j]? = some y → y.x < z.x) ∧ wx = w5.drewN d) (fun kv _ => m - (intOf kv).toNat)
          case atStart => exact ⟨0, 0, rfl, by omega, fun j y hj => absurd hj (by omega), rfl⟩
          case round =>
            obtain ⟨k, d, rfl, hk, hJ, rfl⟩ := hrel
            have HJ := Lib.hid hJ
            clear hJ
            by_cases d3 : k < m
            · obtain ⟨y, hy⟩ : ∃ y, S[k]? = some y := ⟨_, List.getElem?_eq_getElem (by rw [HSl.out]; exact d3)⟩
              obtain ⟨y0, -⟩ := own_pt HO5.out hy
              have HY := Lib.hid hy
              have k2 : (0 : Int) ≤ (k : Int) := by omega
              have k3 : (k : Int) < (m : Int) := by omega
              have k4 : decide ((k : Int) < (m : Int)) = true := by simp; omega
              clear hy
              by_cases d4 : y.x < z.x
              · have e4 : decide (y.x < z.x) = true := by simpa using d4
                go_wp2_with fail
                go_quiet (fail)
                go_wp2_with fail
                go_roundw
                case rel => exact ⟨k + 1, d + nq, by go_num, by omega, fun j u hj hu => by
                  by_cases h : j = k
                  · subst h; rw [HY.out] at hu; cases hu; exact d4
                  · exact HJ.out j u (by omega) hu, rfl⟩
                case measure => simp [intOf]; omega
              · have e4 : decide (y.x < z.x) = false := by simpa using d4
                go_wp2_with fail
                go_quiet (fail)
                go_wp2_with fail
                go_meet
                case rel => exact ⟨k, d + nq, rfl, hk, HJ.out, fun u hu => by rw [HY.out] at hu; cases hu; omega, (by first | rfl | simp)⟩
            · have k4 : decide ((k : Int) < (m : Int)) = false := by simp; omega
              have hkm : S[k]? = none := List.getElem?_eq_none (by rw [HSl.out]; omega)
              have HKm := Lib.hid hkm
              clear hkm
              go_wp2_with fail
              go_quiet (fail)
              go_wp2_with fail
              go_meet
              case rel => exact ⟨k, d + nq, rfl, hk, HJ.out, fun u hu => (by rw [HKm.out] at hu; cases hu), (by first | rfl | simp)⟩
        case rest =>
          obtain ⟨k, d, rfl, hk, hJ, hG, rfl⟩ := hcut
          have HJ := Lib.hid hJ
          have HG := Lib.hid hG
          clear hJ hG
          have k2 : (0 : Int) ≤ (k : Int) := by omega
          have k3 : (k : Int) ≤ (m : Int) := by omega
          have kc : (k : Int) ≤ (cap : Int) := by omega
          cases r
          · have HU2 := Lib.hid (HU.out.skip HZ.out (.inl (fun q => by have := HR.out.2 q; cases this)))
            go_wp2_with fail
            go_quiet (fail)
            go_wp2_with fail
            go_roundw
            case rel => exact ⟨i + 1, m, some ⟨q, 0, none⟩, cap, S, by go_num, by omega, rfl, HSl.out, by omega, fun h => absurd h (by omega), HU2.out, own_drewN HO5.out _, below_drewN HB5.out _⟩
            case measure => go_light; simp [intOf]; omega
          · have HC := Lib.hid (HR.out.1 rfl)
            by_cases hs : ∃ y, S[k]? = some y ∧ y.x = z.x
            · obtain ⟨y, hy, hyx⟩ := hs
              have HU2 := Lib.hid (HU.out.skip HZ.out (.inr (HU.out.same HZ.out HC.out (List.mem_of_getElem? hy) hyx)))
              obtain ⟨y0, -⟩ := own_pt HO5.out hy
              have d3 : k < m := by have := (List.getElem?_eq_some_iff.1 hy).1; have := HSl.out; omega
              have k4 : (k : Int) < (m : Int) := by omega
              have k5 : decide ((k : Int) < (m : Int)) = true := by simp; omega
              have k6 : (y.x == z.x) = true := by simpa using hyx
              clear hy hyx
              go_wp2_with fail
              go_quiet (fail)
              go_wp2_with fail
              go_roundw
              case rel => exact ⟨i + 1, m, some ⟨q, 0, none⟩, cap, S, by go_num, by omega, rfl, HSl.out, by omega, fun h => absurd h (by omega), HU2.out, own_drewN HO5.out _, below_drewN HB5.out _⟩
              case measure => go_light; simp [intOf]; omega
            · have HU2 := Lib.hid (HU.out.ins (k := k) HZ.out HC.out HJ.out (fun y hy => by
                have h1 := HG.out y hy
                by_cases e : y.x = z.x
                · exact absurd ⟨y, hy, e⟩ hs
                · omega))
              have HL2 := Lib.hid (show (S.take k ++ z :: S.drop k).length = m + 1 by simp [List.length_take, List.length_drop]; have := HSl.out; omega)
              go_upto_region 10 with fail
              go_cut [59] (fun v wx => v = .bool false ∧ ∃ d : Nat, wx = w5.drewN d)
              case first =>
                by_cases d3 : k < m
                · obtain ⟨y, hy⟩ : ∃ y, S[k]? = some y := ⟨_, List.getElem?_eq_getElem (by rw [HSl.out]; exact d3)⟩
                  obtain ⟨y0, -⟩ := own_pt HO5.out hy
                  have k4 : (k : Int) < (m : Int) := by omega
                  have k5 : decide ((k : Int) < (m : Int)) = true := by simp; omega
                  have k6 : (y.x == z.x) = false := by simp; exact fun e => hs ⟨y, hy, e⟩
                  clear hy hs
                  go_wp2_with fail
                  go_quiet (fail)
                  go_wp2_with fail
                  go_meet
                  case rel => exact ⟨rfl, d + nq, by first | rfl | simp⟩
                · have k4 : decide ((k : Int) < (m : Int)) = false := by simp; omega
                  clear hs
                  go_wp2_with fail
                  go_quiet (fail)
                  go_wp2_with fail
                  go_meet
                  case rel => exact ⟨rfl, d + nq, by first | rfl | simp⟩
              case rest =>
                obtain ⟨rfl, d', rfl⟩ := hcut
                clear hs
                have IT := Lib.hid (recs_take (k := k) (HI5.out.below (below_drewN (Below.refl w5.heap.size w5) d')) hk)
                have ID := Lib.hid (fun (w' : World) (hb : Below w5.heap.size w5 w') => recs_drop (k := k) (HI5.out.below hb) hk)
                go_upto_region 12 with (at_builtin; refine wpList_append_recs RPoint.cells RPoint.ok 2 (fun _ => rfl) point_one _ rfl _ _ 27 rfl w5.heap.size 29 i0 _ 16 Tryd.underlying27 hi hz0 hz1 hz2 rfl (by decide) (.slice none 0 0) 0 [] rfl (own_nil _ w5.heap.size _ 2) (some ⟨q, 0, none⟩) k cap (S.take k) rfl IT.out (by unfold maxLen; omega) (by omega) (by simp) ?_; intro v1 w6 ho1 hg1)
                have hlt : (S.take k).length = k := by rw [List.length_take, HSl.out]; omega
                have HO1 := Lib.hid (show w6.ownsRow w5.heap.size 29 2 v1 k ((S.take k).flatMap RPoint.cells) from by simpa using ho1)
                have HB6 := Lib.hid (show Below w5.heap.size w5 w6 from ((below_drewN (Below.refl w5.heap.size w5) d').grown hg1 (by simp) (fun k hk => by cases hk)))
                have y0 : w6.cell? ⟨b, off + i * 2, none⟩ = some (.int .i64 z.x) := (HB6.out.cell (p := ⟨b, off + i * 2, none⟩) kb).trans x0
                have y1 : w6.cell? ⟨b, off + i * 2 + 1, none⟩ = some (.int .i64 z.y) := (HB6.out.cell (p := ⟨b, off + i * 2 + 1, none⟩) kb).trans x1
                have hz6 := HB6.out.size
                clear ho1 hg1 x0 x1 IT
                go_upto_region 13 with (at_builtin; refine wpList_append_own _ rfl _ _ 27 rfl w5.heap.size 29 i0 (.agg #[.int .i64 0, .int .i64 0]) 2 16 Tryd.underlying27 hi hz0 hz1 hz2 rfl (by decide) v1 _ _ rfl (HO1.out.alloc _) ⟨w6.heap.size, 0, none⟩ 1 1 (RPoint.cells z) rfl rfl (cell_newAt _ (RPoint.cells z) _ _ rfl) (point_one z) (by unfold maxLen; omega) (by omega) (by simp; omega) ?_; intro v2 w7 ho2 hg2 _)
                have HO2 := Lib.hid (show w7.ownsRow w5.heap.size 29 2 v2 (k + 1) ((S.take k ++ [z]).flatMap RPoint.cells) from by simpa using ho2)
                have HB7 := Lib.hid (show Below w5.heap.size w5 w7 from (HB6.out.alloc hz6 _).grown hg2 (by simp; omega) (fun k hk => (HO1.out.lt k hk).1))
                clear ho2 hg2 y0 y1 hlt
                have ID2 := ID.out w7 HB7.out
                clear ID
                by_cases hkc : k = cap
                · obtain rfl : k = m := by omega
                  subst hkc
                  have hd0 := Lib.hid (show S.drop k = [] from List.drop_eq_nil_of_le (by rw [HSl.out]; exact Nat.le_refl _))
                  clear ID2
                  go_wp2_with (at_builtin; refine wpList_append_recs RPoint.cells RPoint.ok 2 (fun _ => rfl) point_one _ rfl _ _ 27 rfl w5.heap.size 29 i0 _ 16 Tryd.underlying27 hi hz0 hz1 hz2 rfl (by decide) v2 _ _ rfl HO2.out (some ⟨q, 0, none⟩) 0 0 [] rfl ⟨rfl, Nat.le_refl _, by unfold maxLen; omega, by simp, fun h => absurd h (by omega)⟩ (by unfold maxLen; omega) (by omega) HB7.out.size ?_; intro v3 w8 ho3 hg3)
                  have HB8 := Lib.hid (show Below w.heap.size w w8 from HB5.out.trans ((HB7.out.grown hg3 HB7.out.size (fun k hk => (HO2.out.lt k hk).1)).mono hz5))
                  have HO3 := Lib.hid (show w8.ownsRow w.heap.size 29 2 v3 (k + 1) ((S.take k ++ z :: S.drop k).flatMap RPoint.cells) from own_weakP (by rw [hd0.out]; simpa using ho3) hz5)
                  clear ho3 hg3
                  obtain ⟨g9, c9, rfl⟩ : ∃ g9 c9, v3 = .slice (some ⟨g9, 0, none⟩) (k + 1) c9 := by
                    rcases HO3.out.2 with ⟨_, h⟩ | ⟨g', cp, cur, he, _⟩
                    · omega
                    · exact ⟨g', cp, he⟩
                  go_wp2_with fail
                  go_roundw
                  case rel => exact ⟨i + 1, k + 1, some ⟨g9, 0, none⟩, c9, _, by go_num, by omega, rfl, HL2.out, by omega, fun h => absurd h (by omega), HU2.out, HO3.out, HB8.out⟩
                  case measure => go_light; simp [intOf]; omega
                · have HI7 := Lib.hid ID2
                  have k5 : ¬ cap - k = 0 := by omega
                  have k6 : (k : Int) < (cap : Int) := by omega
                  have k7 : ¬ cap = k := by omega
                  clear ID2
                  go_wp2_with (at_builtin; refine wpList_append_recs RPoint.cells RPoint.ok 2 (fun _ => rfl) point_one _ rfl _ _ 27 rfl w5.heap.size 29 i0 _ 16 Tryd.underlying27 hi hz0 hz1 hz2 rfl (by decide) v2 _ _ rfl HO2.out (some ⟨q, k * 2, none⟩) (m - k) (cap - k) (S.drop k) rfl HI7.out (by unfold maxLen; omega) (by omega) HB7.out.size ?_; intro v3 w8 ho3 hg3)
                  have HB8 := Lib.hid (show Below w.heap.size w w8 from HB5.out.trans ((HB7.out.grown hg3 HB7.out.size (fun k hk => (HO2.out.lt k hk).1)).mono hz5))
                  have HO3 := Lib.hid (show w8.ownsRow w.heap.size 29 2 v3 (m + 1) ((S.take k ++ z :: S.drop k).flatMap RPoint.cells) from own_weakP (by rw [show k + 1 + (m - k) = m + 1 by omega] at ho3; simpa using ho3) hz5)
                  clear ho3 hg3
                  obtain ⟨g9, c9, rfl⟩ : ∃ g9 c9, v3 = .slice (some ⟨g9, 0, none⟩) (m + 1) c9 := by
                    rcases HO3.out.2 with ⟨_, h⟩ | ⟨g', cp, cur, he, _⟩
                    · omega
                    · exact ⟨g', cp, he⟩
                  go_wp2_with fail
                  go_roundw
                  case rel => exact ⟨i + 1, m + 1, some ⟨g9, 0, none⟩, c9, _, by go_num, by omega, rfl, HL2.out, by omega, fun h => absurd h (by omega), HU2.out, HO3.out, HB8.out⟩
                  case measure => go_light; simp [intOf]; omega
    · obtain rfl : i = n := by omega
      have hL := H.out.1
      obtain ⟨A9, n9, c9, he9, hI⟩ := own_recs RPoint.cells RPoint.ok 2 (fun _ => rfl) (zs := S) (by rw [HSl.out]; exact HO.out) (fun z hz => by
        have := ptB_iff.1 (HPb.out z (HU.out.len z hz))
        unfold RPoint.ok i64B; omega)
      cases he9
      have HI := Lib.hid hI
      have HU2 := Lib.hid (show UpSt zs zs.length S by rw [hL]; exact HU.out)
      clear hI
      go_wp2_with fail
      refine bodyPost_ret (v := .slice AO m cO) (by simp [results, Tryd.results11, go_sem]) rfl ?_
      exact ⟨AO, m, cO, S, rfl, HI.out, HU2.out, hmi, HB.out⟩
end Go.Proofs.YtdjkhagdckhijaaDoor
