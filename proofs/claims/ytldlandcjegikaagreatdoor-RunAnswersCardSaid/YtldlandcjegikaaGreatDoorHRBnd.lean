/- noonref2.Bounds, walked. -/
import Derived.Test.YtldlandcjegikaaGreatDoorHTightW
import Derived.Test.YtldlandcjegikaaGreatDoorHK3
import Derived.BigRegion
import Derived.Deep.DeepCutAuto
import Derived.Deep.CutBlock
import Derived.Deep.Light
namespace Go.Proofs.YtldlandcjegikaaGreatDoor
open Go.RowKit
set_option linter.unusedVariables false
set_option linter.unusedSimpArgs false
def rowF (N : Nat) (F : Nat → Nat → RSpan) (a k : Nat) : List RSpan := (List.range N).map fun j => if j < k then F a j else ⟨0, 0⟩
theorem rowF_len {N : Nat} {F : Nat → Nat → RSpan} {a k : Nat} : (rowF N F a k).length = N := by simp [rowF]
theorem rowF_at {N : Nat} {F : Nat → Nat → RSpan} {a k j : Nat} (h : j < N) : (rowF N F a k)[j]? = some (if j < k then F a j else ⟨0, 0⟩) := by
 unfold rowF
 rw [List.getElem?_map, List.getElem?_range h]
 rfl
theorem rowF_0 (N : Nat) (F : Nat → Nat → RSpan) (a : Nat) : List.replicate N (⟨0, 0⟩ : RSpan) = rowF N F a 0 := by
 apply List.ext_getElem?
 intro j
 rw [List.getElem?_replicate]
 by_cases hj : j < N
 ·rw [if_pos hj, rowF_at hj, if_neg (by omega)]
 ·rw [if_neg hj, List.getElem?_eq_none (by rw [rowF_len]; omega)]
theorem rowF_set {N : Nat} {F : Nat → Nat → RSpan} {a k : Nat} (hk : k < N) : (rowF N F a k).set k (F a k) = rowF N F a (k + 1) := by
 apply List.ext_getElem?
 intro j
 rw [List.getElem?_set]
 by_cases hj : j < N
 ·rw [rowF_at (k := k + 1) hj]
  by_cases e : k = j
  ·subst e
   rw [if_pos rfl, if_pos (by rw [rowF_len]; exact hk), if_pos (by omega)]
  ·rw [if_neg e, rowF_at hj]
   by_cases f : j < k
   ·rw [if_pos f, if_pos (by omega)]
   ·rw [if_neg f, if_neg (by omega)]
 ·rw [if_neg (by omega), List.getElem?_eq_none (by rw [rowF_len]; omega), List.getElem?_eq_none (by rw [rowF_len]; omega)]
theorem rowF_skip {N : Nat} {F : Nat → Nat → RSpan} {a k : Nat} (h : F a k = ⟨0, 0⟩) : rowF N F a k = rowF N F a (k + 1) := by
 unfold rowF
 apply List.map_congr_left
 intro j _
 by_cases f : j < k
 ·rw [if_pos f, if_pos (by omega)]
 ·by_cases e : j = k
  ·subst e
   rw [if_neg f, if_pos (by omega), h]
  ·rw [if_neg f, if_neg (by omega)]
theorem rows_mat {w : World} {B0 g N cap : Nat} {cur : Array Value} {ρ : Nat → Nat} {Ts Ti : TypeId} {F : Nat → Nat → RSpan} (ho : Blk w g Ts cur) (hc : ∀ j, j < N → cur[j]? = some (Value.slice (some ⟨ρ j, 0, none⟩) N N)) (hR : Rows2 w B0 N ρ ρ Ti Ti (fun j => SCells (rowF N F j N)) (fun j => SCells (rowF N F j N))) (h1 : N ≤ cap) (h2 : cap ≤ maxLen) :
  IsMat w RSpan.cells 2 (some ⟨g, 0, none⟩) N cap N F := by
 refine ⟨rfl, h1, h2, g, rfl, ho.lt, fun i hi => ⟨ρ i, N, (ho.cell i).trans (hc i hi), Nat.le_refl _, by omega, (hR.r1 i hi).lt, fun j hj q u hu => ?_⟩⟩
 have hz : (rowF N F i N)[j]? = some (F i j) := by rw [rowF_at hj, if_pos hj]
 have hb := hR.r1 i hi
 have hq : q = 0 ∨ q = 1 := by
  have := (List.getElem?_eq_some_iff.1 hu).1
  simp [RSpan.cells] at this
  omega
 rcases hq with rfl | rfl
 ·simp [RSpan.cells] at hu
  subst hu
  exact hb.sat0 hz
 ·simp [RSpan.cells] at hu
  subst hu
  exact hb.sat1 hz
def BndsR (N : Nat) (zs : List REdge) (w w' : World) (e : Ending) : Prop :=
 (Sunk (Arc zs) N ∧ e = .returned (.tuple #[.slice none 0 0, .slice none 0 0, .int .i64 7]) ∧ Below w.heap.size w w') ∨
 (¬ Sunk (Arc zs) N ∧ ∃ (D : Nat → Nat → Int) (H : Nat → Nat → Bool), Tells (Arc zs) N D H ∧ Below w.heap.size w w' ∧
  ((TimeS N D H 1 ∧ e = .returned (.tuple #[.slice none 0 0, .slice none 0 0, .int .i64 1])) ∨
   (TimeS N D H 0 ∧ ∃ (A B : Option Addr) (c d : Nat), e = .returned (.tuple #[.slice A N c, .slice B N d, .int .i64 0]) ∧ IsMat w' RSpan.cells 2 A N c N (bndS D H) ∧ IsMat w' boolCells 1 B N d N H)))
set_option maxRecDepth 100000 in
set_option maxHeartbeats 8000000 in
theorem r2_Bounds (N : Nat) (A : Option Addr) (n c : Nat) (zs : List REdge) (w : World) (hz : IsRecs w REdge.cells REdge.ok 4 A n c zs) (h1 : 1 ≤ N) (h6 : N ≤ 6) (hn : n ≤ 40) (hl : EdgesOk N zs) :
  Calls Tryz.prog 45 #[.int .i64 N, .slice A n c] w fun e w' => BndsR N zs w w' e := by
 have CT := Lib.hid (r1_Tight N A n c zs w hz h1 h6 hn hl)
 have mk := make_spans N (by omega)
 obtain ⟨i1, hi1, hi1z, hi1s, hi1b⟩ := info_parts infoSl2
 clear hz hl
 go_enter Tryz.func45, Tryz.ntmps45
 go_wp2_with fail
 refine CT.out.mono ?_
 rintro e w1 (⟨hs, rfl, hb1⟩ | ⟨hs, D, H, A1, A2, c1, c2, rfl, hD, hBd, hM, hH, hb1⟩)
 ·have HS := Lib.hid hs
  have HB := Lib.hid hb1
  clear hs hb1
  go_wp2_with fail
  refine bodyPost_ret (v := .tuple #[.slice none 0 0, .slice none 0 0, .int .i64 7]) (by simp [results, Tryz.results45, go_sem]) rfl ?_
  exact .inl ⟨HS.out, rfl, HB.out⟩
 ·have HHM := Lib.hid hH
  obtain ⟨-, m1, m2, b1, rfl, hl1, hM⟩ := hM
  obtain ⟨-, q1, q2, b2, rfl, hl2, hH⟩ := hH
  unfold maxLen at m2 q2
  have HM := Lib.hid hM
  have HH := Lib.hid hH
  have HD := Lib.hid hD
  have HBD := Lib.hid hBd
  have HS := Lib.hid hs
  have HB1 := Lib.hid hb1
  have HZ1 := hb1.size
  clear hM hH hD hBd hs hb1 CT
  go_wp2_with fail
  go_loopw [10, 11] (fun ov iv wr => ∃ (i : Nat) (ρ : Nat → Nat), iv = .int .i64 i ∧ i ≤ N ∧ wr.ownsRow w1.heap.size 125 1 ov i (slV ρ N i) ∧ Rows2 wr w1.heap.size i ρ ρ 34 34 (fun j => SCells (rowF N (bndS D H) j N)) (fun j => SCells (rowF N (bndS D H) j N)) ∧ (∀ a b, a < i → b < N → H a b = true → timeB (D a b) = true) ∧ Below w1.heap.size w1 wr) (fun _ iv _ => N - (intOf iv).toNat)
  case atStart => exact ⟨0, id, rfl, by omega, own_nil _ _ _ _, Rows2.nil _ _ _ _ _ _ _ _, fun a b h => absurd h (by omega), Below.refl _ _⟩
  case round =>
   obtain ⟨wo, hwo⟩ : ∃ wo, wo = wr := ⟨_, rfl⟩
   subst hwo
   obtain ⟨i, ρ, rfl, hi, ho, hR, hT, hB⟩ := hrel
   have HO := Lib.hid ho
   have HR := Lib.hid hR
   have HT := Lib.hid hT
   have HB := Lib.hid hB
   have hzw := hB.size
   clear ho hR hT hB
   by_cases d1 : i < N
   ·have d1' : (i : Int) < (N : Int) := by omega
    have k0 : (0 : Int) ≤ (i : Int) := by omega
    go_upto_region 9 with fail
    have bR : Blk (wo.alloc (.cells (SCells (List.replicate N ⟨0, 0⟩)) 34)) wo.heap.size 34 (SCells (rowF N (bndS D H) i 0)) := by rw [← rowF_0]; exact Blk.new _ _ _
    have hb3 : Below wo.heap.size wo (wo.alloc (.cells (SCells (List.replicate N ⟨0, 0⟩)) 34)) := BeL
    have hs3 : (wo.alloc (.cells (SCells (List.replicate N ⟨0, 0⟩)) 34)).heap.size = wo.heap.size + 1 := by simp
    obtain ⟨w3, hw3⟩ : ∃ w3, wo.alloc (.cells (SCells (List.replicate N ⟨0, 0⟩)) 34) = w3 := ⟨_, rfl⟩
    rw [hw3] at bR hb3 hs3 ⊢
    have BR := Lib.hid bR
    have HB3 := Lib.hid hb3
    obtain ⟨g, hg⟩ : ∃ g, wo.heap.size = g := ⟨_, rfl⟩
    have HG := Lib.hid hg
    rw [hg] at hs3 hzw
    rw [show (⟨wo.heap.size, 0, none⟩ : Addr) = ⟨g, 0, none⟩ by rw [hg]]
    clear hw3 bR hb3 mk hg
    go_wp2_with fail
    go_loopw [13] (fun kv wx => ∃ k : Nat, kv = .int .i64 k ∧ k ≤ N ∧ Blk wx g 34 (SCells (rowF N (bndS D H) i k)) ∧ (∀ b, b < k → H i b = true → timeB (D i b) = true) ∧ Below g wo wx ∧ g + 1 ≤ wx.heap.size) (fun kv _ => N - (intOf kv).toNat)
    case atStart => exact ⟨0, rfl, by omega, by have := BR.out; rwa [HG.out] at this, fun b h => absurd h (by omega), by have := HB3.out; rwa [HG.out] at this, by omega⟩
    case round =>
     clear BR HB3 hs3
     obtain ⟨k, rfl, hk, hR1, hT1, hB1, hzx⟩ := hrel
     have HR1 := Lib.hid hR1
     have HT1 := Lib.hid hT1
     have HBw := Lib.hid hB1
     have HBx := Lib.hid (HB.out.trans (hB1.mono hzw))
     clear hR1 hT1 hB1
     by_cases d2 : k < N
     ·have d2' : (k : Int) < (N : Int) := by omega
      have k2 : (0 : Int) ≤ (k : Int) := by omega
      obtain ⟨r1, e1, s1, s2, s3, s4, s5⟩ := HM.out i d1
      obtain ⟨r3, e3, u1, u2, u3, u4, u5⟩ := HM.out k d2
      obtain ⟨r2, e2, t1, t2, t3, t4, t5⟩ := HH.out i d1
      unfold maxLen at s3 u3 t3
      have x0 := (HBx.out.cell (p := ⟨b1, i, none⟩) hl1).trans s1
      have x1 := (HBx.out.cell (p := ⟨b1, k, none⟩) hl1).trans u1
      have x2 := (HBx.out.cell (p := ⟨b2, i, none⟩) hl2).trans t1
      have x3 := (HBx.out.cell (p := ⟨r1, k * 1 + 0, none⟩) s4).trans (s5 k d2 0 _ rfl)
      have x4 := (HBx.out.cell (p := ⟨r3, i * 1 + 0, none⟩) u4).trans (u5 i d1 0 _ rfl)
      have x5 := (HBx.out.cell (p := ⟨r2, k * 1 + 0, none⟩) t4).trans (t5 k d2 0 _ rfl)
      simp only [Nat.mul_one, Nat.add_zero] at x3 x4 x5
      have l1 : b1 < wr.heap.size := by omega
      have l2 : b2 < wr.heap.size := by omega
      have l3 : r1 < wr.heap.size := by omega
      have l4 : r2 < wr.heap.size := by omega
      have l5 : r3 < wr.heap.size := by omega
      clear s1 s5 u1 u5 t1 t5
      cases hh : H i k
      ·rw [hh] at x5
       have HSk := Lib.hid (rowF_skip (N := N) (F := bndS D H) (a := i) (k := k) (by unfold bndS; rw [hh]; rfl))
       have HTk := Lib.hid (show ∀ b, b < k + 1 → H i b = true → timeB (D i b) = true from fun b hb g => by
        by_cases e : b = k
        ·subst e; rw [hh] at g; cases g
        ·exact HT1.out b (by omega) g)
       clear hh
       go_wp2_with fail
       go_roundw
       case rel => exact ⟨k + 1, by go_num, by omega, by have := HR1.out; rwa [HSk.out] at this, HTk.out, HBw.out, hzx⟩
       case measure => go_light; simp [intOf]; omega
      ·rw [hh] at x5
       have hr := tells_rev HD.out d1 d2 hh
       have bd1 := HBD.out i k d1 hh
       have bd2 := HBD.out k i d2 hr
       have hF : bndS D H i k = ⟨-(D k i), D i k⟩ := by unfold bndS; rw [if_pos hh]
       have HH1 := Lib.hid hh
       have HHr := Lib.hid hr
       clear hh hr
       obtain ⟨v1, hv1⟩ : ∃ v, D i k = v := ⟨_, rfl⟩
       obtain ⟨v2, hv2⟩ : ∃ v, D k i = v := ⟨_, rfl⟩
       rw [hv1] at x3 bd1 hF
       rw [hv2] at x4 bd2 hF
       have HF := Lib.hid hF
       have HV1 := Lib.hid hv1
       have HV2 := Lib.hid hv2
       have f0 := fun o => HR1.out.fz o
       have z0 := HR1.out.sat0 (rowF_at (F := bndS D H) (a := i) (k := k) d2)
       have z1 := HR1.out.sat1 (rowF_at (F := bndS D H) (a := i) (k := k) d2)
       rw [if_neg (by omega)] at z0 z1
       have gl := HR1.out.lt
       have bR4 := HR1.out.sset k (-v2) v1
       have hS4 : (rowF N (bndS D H) i k).set k ⟨-v2, v1⟩ = rowF N (bndS D H) i (k + 1) := by rw [← HF.out]; exact rowF_set d2
       rw [hS4] at bR4
       have BR4 := Lib.hid bR4
       obtain ⟨b11, b12⟩ := bd1
       obtain ⟨b21, b22⟩ := bd2
       clear hF hv1 hv2 bR4 hS4
       go_wp2_with fail
       go_region
       have hbx : ∃ w6, (((wr.setCell ⟨g, k * 2, none⟩ (.int .i64 (-v2))).setCell ⟨g, k * 2 + 1, none⟩ (.int .i64 v1))).drew = w6 ∧ Blk w6 g 34 (SCells (rowF N (bndS D H) i (k + 1))) ∧ Below g wo w6 ∧ g + 1 ≤ w6.heap.size :=
        ⟨_, rfl, BR4.out.drewN 1, ((HBw.out.setCell (Nat.le_refl _) _).setCell (Nat.le_refl _) _).drew, by simp; exact hzx⟩
       obtain ⟨w6, hw6, hr6, hb6, hz6⟩ := hbx
       rw [hw6]
       have z2 := hr6.sat0 (rowF_at (F := bndS D H) (a := i) (k := k + 1) d2)
       have z3 := hr6.sat1 (rowF_at (F := bndS D H) (a := i) (k := k + 1) d2)
       rw [if_pos (by omega), HF.out] at z2 z3
       have HR6 := Lib.hid hr6
       have HB6 := Lib.hid hb6
       have gl6 := hr6.lt
       clear hw6 hr6 hb6 z0 z1 f0 BR4 x0 x1 x2 x3 x4 x5 l1 l2 l3 l4 l5 gl HF
       cases ta : timeB (-v2)
       ·have HN := Lib.hid (show TimeS N D H 1 from .inr ⟨rfl, k, i, d2, d1, HHr.out, by
         rw [HV2.out]
         cases q : timeB v2
         ·rfl
         ·have := time_neg q; rw [ta] at this; cases this⟩)
        go_wp2_with (go_at_call 83; refine (r1_Time _ _).mono ?_; rintro e w' ⟨rfl, rfl⟩)
        refine bodyPost_ret (v := .tuple #[.slice none 0 0, .slice none 0 0, .int .i64 1]) (by simp [results, Tryz.results45, go_sem]) rfl ?_
        have hb7 := HB1.out.trans ((HB.out.trans (HB6.out.mono hzw)).mono HZ1)
        exact .inr ⟨HS.out, D, H, HD.out, BeL, .inl ⟨HN.out, rfl⟩⟩
       ·cases tb : timeB v1
        ·have HN := Lib.hid (show TimeS N D H 1 from .inr ⟨rfl, i, k, d1, d2, HH1.out, by rw [HV1.out]; exact tb⟩)
         go_wp2_with (go_at_call 83; refine (r1_Time _ _).mono ?_; rintro e w' ⟨rfl, rfl⟩)
         refine bodyPost_ret (v := .tuple #[.slice none 0 0, .slice none 0 0, .int .i64 1]) (by simp [results, Tryz.results45, go_sem]) rfl ?_
         have hb7 := HB1.out.trans ((HB.out.trans (HB6.out.mono hzw)).mono HZ1)
         exact .inr ⟨HS.out, D, H, HD.out, BeL, .inl ⟨HN.out, rfl⟩⟩
        ·have HTk := Lib.hid (show ∀ b, b < k + 1 → H i b = true → timeB (D i b) = true from fun b hb g => by
          by_cases e : b = k
          ·subst e; rw [HV1.out]; exact tb
          ·exact HT1.out b (by omega) g)
         go_wp2_with (go_at_call 83; refine (r1_Time _ _).mono ?_; rintro e w' ⟨rfl, rfl⟩)
         go_roundw
         case rel => exact ⟨k + 1, by go_num, by omega, HR6.out, HTk.out, HB6.out, hz6⟩
         case measure => go_light; simp [intOf]; omega
     ·obtain rfl : k = N := by omega
      have hbo : Below wo.heap.size wo wr := by rw [HG.out]; exact HBw.out
      have O1 := Lib.hid (own_below HO.out hbo)
      have R1 := Lib.hid (HR.out.keep (w' := wr) (fun b hb T xs h _ => h.below hbo hb))
      have hg' := HG.out
      have HTi := Lib.hid (show ∀ a b, a < i + 1 → b < k → H a b = true → timeB (D a b) = true from fun a b ha hb g => by
       by_cases e : a = i
       ·subst e; exact HT1.out b hb g
       ·exact HT.out a b (by omega) hb g)
      have hzz : w1.heap.size ≤ wr.heap.size := by omega
      have HLt := Lib.hid (show ∀ j, j < i → ρ j < g from fun j hj => by have := (HR.out.r1 j hj).lt; omega)
      clear hbo hg'
      go_wp2_with (at_builtin; refine wpList_append_own _ rfl _ _ 120 rfl w1.heap.size 125 i1 (.slice none 0 0) 1 24 Tryz.underlying120 hi1 hi1z hi1s hi1b rfl (by decide) _ _ _ rfl (O1.out.alloc _) ⟨wr.heap.size, 0, none⟩ 1 1 [.slice (some ⟨g, 0, none⟩) k k] rfl rfl (cell_newAt wr [.slice (some ⟨g, 0, none⟩) k k] _ _ rfl) (one_sl _ _ _ _ rfl) (by unfold maxLen; omega) (by omega) (by simp; omega) ?_; intro v1 w5 ho5 hg5 _)
      have oo1 := O1.out.alloc (.cells #[.slice (some ⟨g, 0, none⟩) k k] 125)
      have BR5 := Lib.hid (own_blk_far oo1 hg5 (HR1.out.alloc _) (by decide))
      have R5 := Lib.hid (R1.out.keep (w' := w5) (fun b hb T xs h hT => own_blk_far oo1 hg5 (h.alloc _) (by rcases hT with rfl | rfl <;> decide)))
      have HB5 := Lib.hid ((HBx.out.alloc hzz (.cells #[.slice (some ⟨g, 0, none⟩) k k] 125)).grown hg5 (by simp; omega) (fun k hk => (O1.out.lt k hk).1))
      have O15 := Lib.hid (slV_succ ρ k i g ▸ ho5)
      clear ho5 hg5 oo1 O1 R1
      go_roundw
      case rel => exact ⟨i + 1, _, by go_num, by omega, O15.out, R5.out.snoc BR5.out BR5.out HLt.out HLt.out hzw hzw, HTi.out, HB5.out⟩
      case measure => go_light; simp [intOf]; omega
   ·obtain rfl : i = N := by omega
    rcases HO.out.2 with ⟨_, h⟩ | ⟨g1, cap1, cur1, rfl, hg1, hb1, hn1, hm1, hs1, ht1⟩
    ·omega
    have HMo := Lib.hid (rows_mat (w := wo) (g := g1) (cap := cap1) hb1 (fun j hj => by
     have h := slV_at (ρ := ρ) (N := i) hj
     rw [← ht1, List.getElem?_take, if_pos (by omega)] at h
     simpa using h) HR.out hn1 hm1)
    have HF0 := Lib.hid (show TimeS i D H 0 from .inl ⟨rfl, HT.out⟩)
    clear hg1 hb1 hs1 ht1 mk
    go_wp2_with fail
    refine bodyPost_ret (v := .tuple #[.slice (some ⟨g1, 0, none⟩) i cap1, .slice (some ⟨b2, 0, none⟩) i c2, .int .i64 0]) (by simp [results, Tryz.results45, go_sem]) rfl ?_
    exact .inr ⟨HS.out, D, H, HD.out, HB1.out.trans (HB.out.mono HZ1), .inr ⟨HF0.out, _, _, _, _, rfl, HMo.out, HHM.out.below HB.out⟩⟩
end Go.Proofs.YtldlandcjegikaaGreatDoor
