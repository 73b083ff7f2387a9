/- noonref1.Tight, walked. -/
import Derived.Test.YtldlandcjegikaaGreatDoorHS5
namespace Go.Proofs.YtldlandcjegikaaGreatDoor
open Go.RowKit
set_option linter.unusedVariables false
set_option linter.unusedSimpArgs false
def TightR (N : Nat) (zs : List REdge) (w w' : World) (e : Ending) : Prop :=
 (Sunk (Arc zs) N ∧ e = .returned (.tuple #[.slice none 0 0, .slice none 0 0, .bool false]) ∧ Below w.heap.size w w') ∨
 (¬ Sunk (Arc zs) N ∧ ∃ (D : Nat → Nat → Int) (H : Nat → Nat → Bool) (A B : Option Addr) (c d : Nat), e = .returned (.tuple #[.slice A N c, .slice B N d, .bool true]) ∧ Tells (Arc zs) N D H ∧
  (∀ a b, a < N → H a b = true → -2000000000000000 ≤ D a b ∧ D a b ≤ 2000000000000000) ∧ IsMat w' intCells 1 A N c N D ∧ IsMat w' boolCells 1 B N d N H ∧ Below w.heap.size w w')
theorem infoSlB : (Tryz.prog.info? 124).map (fun i => (i.zero, i.size, i.bytes)) = some (some (.slice none 0 0), 1, 24) := by kernel_rfl
theorem one_sl (v : Value) (A : Option Addr) (n c : Nat) (hv : v = .slice A n c) : ∀ u ∈ [v], u.oneCell' = true := by
 intro u hu
 simp at hu
 subst hu; subst hv; rfl
theorem row00 (N i : Nat) : ICells (List.replicate N 0) = ICells (rowOf N D00 i) := by
 congr 1
 apply List.ext_getElem?
 intro j
 rw [List.getElem?_replicate]
 by_cases hj : j < N
 ·rw [if_pos hj, rowOf_at hj]; rfl
 ·rw [if_neg hj, List.getElem?_eq_none (by rw [rowOf_len]; omega)]
theorem row0H (N i : Nat) : BCells ((List.replicate N false).set i true) = BCells (rowB N H00 i) := by
 congr 1
 apply List.ext_getElem?
 intro j
 rw [List.getElem?_set, List.getElem?_replicate]
 by_cases hj : j < N
 ·rw [rowB_at hj]
  by_cases e : i = j
  ·subst e; simp [H00, hj]
  ·rw [if_neg e, if_pos hj]
   simp [H00, show ¬ j = i from fun h => e h.symm]
 ·rw [List.getElem?_eq_none (l := rowB N H00 i) (by rw [rowB_len]; omega)]
  by_cases e : i = j
  ·subst e; simp [hj]
  ·rw [if_neg e, if_neg hj]
set_option maxRecDepth 100000 in
set_option maxHeartbeats 8000000 in
theorem r1_Tight (N : Nat) (A : Option Addr) (n c : Nat) (zs : List REdge) (w : World) (hz : IsRecs w REdge.cells REdge.ok 4 A n c zs) (h1 : 1 ≤ N) (h6 : N ≤ 6) (hn : n ≤ 40) (hl : EdgesOk N zs) :
  Calls Tryz.prog 82 #[.int .i64 N, .slice A n c] w fun e w' => TightR N zs w w' e := by
 obtain ⟨l1, l2, l3, l4, l5⟩ := hz
 unfold maxLen at l3
 obtain ⟨i1, hi1, hi1z, hi1s, hi1b⟩ := info_parts infoSl
 obtain ⟨i2, hi2, hi2z, hi2s, hi2b⟩ := info_parts infoSlB
 have L1 := Lib.hid l1
 have L5 := Lib.hid l5
 have HL := Lib.hid hl
 clear l4 l5 l1 hl
 have mk1 := run_make_row' (P := Tryz.prog) 27 3 (.int .i64 0) 8 Tryz.underlying27 infoI rfl .i64 .i64 N (by omega) (by omega)
 have mk2 := run_make_row' (P := Tryz.prog) 124 4 (.bool false) 1 Tryz.underlying124 infoB rfl .i64 .i64 N (by omega) (by omega)
 rw [made_i] at mk1
 rw [made_b] at mk2
 go_enter Tryz.func82, Tryz.ntmps82
 go_wp2_with fail
 go_loopw [7, 8, 9] (fun dv hv iv wr => ∃ (i : Nat) (ρ σ : Nat → Nat), iv = .int .i64 i ∧ i ≤ N ∧ wr.ownsRow w.heap.size 27 1 dv i (slV ρ N i) ∧ wr.ownsRow w.heap.size 124 1 hv i (slV σ N i) ∧
  Rows2 wr w.heap.size i ρ σ 3 4 (fun j => ICells (rowOf N D00 j)) (fun j => BCells (rowB N H00 j)) ∧ Below w.heap.size w wr) (fun _ _ iv _ => N - (intOf iv).toNat)
 case atStart => exact ⟨0, id, id, rfl, by omega, own_nil _ _ _ _, own_nil _ _ _ _, Rows2.nil _ _ _ _ _ _ _ _, Below.refl _ _⟩
 case round =>
  obtain ⟨i, ρ, σ, rfl, hi, ho1, ho2, hR, hB⟩ := hrel
  have HO1 := Lib.hid ho1
  have HO2 := Lib.hid ho2
  have HR := Lib.hid hR
  have HB := Lib.hid hB
  have hzw := hB.size
  clear ho1 ho2 hR hB
  by_cases d1 : i < N
  ·go_upto_region 8 with fail
   have bI := (Blk.new wr 3 (ICells (List.replicate N 0))).alloc (.cells (BCells (List.replicate N false)) 4)
   have bB := Blk.newAt2 wr (.cells (ICells (List.replicate N 0)) 3) 4 (BCells (List.replicate N false))
   have hb3 : Below wr.heap.size wr ((wr.alloc (.cells (ICells (List.replicate N 0)) 3)).alloc (.cells (BCells (List.replicate N false)) 4)) := BeL
   have hs3 : ((wr.alloc (.cells (ICells (List.replicate N 0)) 3)).alloc (.cells (BCells (List.replicate N false)) 4)).heap.size = wr.heap.size + 2 := by simp
   obtain ⟨w3, hw3⟩ : ∃ w3, (wr.alloc (.cells (ICells (List.replicate N 0)) 3)).alloc (.cells (BCells (List.replicate N false)) 4) = w3 := ⟨_, rfl⟩
   rw [hw3] at bI bB hb3 hs3 ⊢
   have xc := bB.bat (i := i) (v := false) (by rw [List.getElem?_replicate, if_pos d1])
   have xf := bB.fz i
   have xl := bB.lt
   have BI := Lib.hid bI
   have BB := Lib.hid bB
   have HB3 := Lib.hid hb3
   have HS3 := Lib.hid hs3
   clear hw3 bI bB hb3 hs3 mk1 mk2
   have k0 : (0 : Int) ≤ (i : Int) := by omega
   have k1 : (i : Int) < (N : Int) := by omega
   go_upto_region 9 with fail
   have hb4 : Below wr.heap.size wr (w3.setCell ⟨wr.heap.size + 1, i, none⟩ (.bool true)) := HB3.out.setCell (by simp) _
   have bI4 := BI.out.far (p := ⟨wr.heap.size + 1, i, none⟩) (by simp) (.bool true)
   have bB4 := BB.out.bset i true
   have hs4 : (w3.setCell ⟨wr.heap.size + 1, i, none⟩ (.bool true)).heap.size = wr.heap.size + 2 := by simp; exact HS3.out
   obtain ⟨w4, hw4⟩ : ∃ w4, w3.setCell ⟨wr.heap.size + 1, i, none⟩ (.bool true) = w4 := ⟨_, rfl⟩
   rw [hw4] at hb4 bI4 bB4 hs4 ⊢
   have ho1 := own_below HO1.out hb4
   have ho2 := own_below HO2.out hb4
   have hR4 := HR.out.keep (w' := w4) (fun b hb T xs h _ => h.below hb4 hb)
   have HB4 := Lib.hid (HB.out.trans (hb4.mono HB.out.size))
   have BI := Lib.hid bI4
   have BB := Lib.hid bB4
   have O1 := Lib.hid ho1
   have O2 := Lib.hid ho2
   have R4 := Lib.hid hR4
   have HS4 := Lib.hid hs4
   have hzz : w.heap.size ≤ w4.heap.size := by omega
   clear hw4 hb4 bI4 bB4 hs4 ho1 ho2 hR4 HB3 HS3 xc xf xl
   go_upto_region 10 with (at_builtin; refine wpList_append_own _ rfl _ _ 171 rfl w.heap.size 27 i1 (.slice none 0 0) 1 24 Tryz.underlying171 hi1 hi1z hi1s hi1b rfl (by decide) _ _ _ rfl (O1.out.alloc _) ⟨w4.heap.size, 0, none⟩ 1 1 [.slice (some ⟨wr.heap.size, 0, none⟩) N N] rfl rfl (cell_newAt w4 [.slice (some ⟨wr.heap.size, 0, none⟩) N N] _ _ rfl) (one_sl _ _ _ _ rfl) (by unfold maxLen; omega) (by omega) (by simp; omega) ?_; intro v1 w5 ho5 hg5 _)
   have oo1 := O1.out.alloc (.cells #[.slice (some ⟨wr.heap.size, 0, none⟩) N N] 27)
   have hs5 : wr.heap.size + 2 ≤ w5.heap.size := by
    have h := hg5.size
    rw [World.size_alloc] at h
    have := HS4.out
    omega
   have BI5 := Lib.hid (own_blk_far oo1 hg5 (BI.out.alloc _) (by decide))
   have BB5 := Lib.hid (own_blk_far oo1 hg5 (BB.out.alloc _) (by decide))
   have O25 := Lib.hid ((O2.out.alloc _).kept hg5 (own_apart (O2.out.alloc (.cells #[.slice (some ⟨wr.heap.size, 0, none⟩) N N] 27)) oo1 (by decide)))
   have R5 := Lib.hid (R4.out.keep (w' := w5) (fun b hb T xs h hT => own_blk_far oo1 hg5 (h.alloc _) (by rcases hT with rfl | rfl <;> decide)))
   have HB5 := Lib.hid ((HB4.out.alloc hzz (.cells #[.slice (some ⟨wr.heap.size, 0, none⟩) N N] 27)).grown hg5 (by simp; omega) (fun k hk => (O1.out.lt k hk).1))
   have O15 := Lib.hid (slV_succ ρ N i wr.heap.size ▸ ho5)
   have hz5 : w.heap.size ≤ w5.heap.size := by omega
   clear ho5 hg5 oo1 BI BB R4 HB4 O1 O2 hzz HS4
   go_wp2_with (at_builtin; refine wpList_append_own _ rfl _ _ 121 rfl w.heap.size 124 i2 (.slice none 0 0) 1 24 Tryz.underlying121 hi2 hi2z hi2s hi2b rfl (by decide) _ _ _ rfl (O25.out.alloc _) ⟨w5.heap.size, 0, none⟩ 1 1 [.slice (some ⟨wr.heap.size + 1, 0, none⟩) N N] rfl rfl (cell_newAt w5 [.slice (some ⟨wr.heap.size + 1, 0, none⟩) N N] _ _ rfl) (one_sl _ _ _ _ rfl) (by unfold maxLen; omega) (by omega) (by simp; omega) ?_; intro v2 w6 ho6 hg6 _)
   have oo2 := O25.out.alloc (.cells #[.slice (some ⟨wr.heap.size + 1, 0, none⟩) N N] 124)
   have BI6 := Lib.hid (own_blk_far oo2 hg6 (BI5.out.alloc _) (by decide))
   have BB6 := Lib.hid (own_blk_far oo2 hg6 (BB5.out.alloc _) (by decide))
   have O16 := Lib.hid ((O15.out.alloc _).kept hg6 (own_apart (O15.out.alloc (.cells #[.slice (some ⟨wr.heap.size + 1, 0, none⟩) N N] 124)) oo2 (by decide)))
   have R6 := Lib.hid (R5.out.keep (w' := w6) (fun b hb T xs h hT => own_blk_far oo2 hg6 (h.alloc _) (by rcases hT with rfl | rfl <;> decide)))
   have HB6 := Lib.hid ((HB5.out.alloc hz5 (.cells #[.slice (some ⟨wr.heap.size + 1, 0, none⟩) N N] 124)).grown hg6 (by simp; omega) (fun k hk => (O25.out.lt k hk).1))
   have O26 := Lib.hid (slV_succ σ N i (wr.heap.size + 1) ▸ ho6)
   clear ho6 hg6 oo2 BI5 BB5 R5 HB5 O15 O25 hz5 hs5
   go_roundw
   case rel => exact ⟨i + 1, _, _, by go_num, by omega, O16.out, O26.out, R6.out.snoc (BI6.out.conv (row00 N i)) (BB6.out.conv (row0H N i)) (fun j hj => (HR.out.r1 j hj).lt) (fun j hj => by have := (HR.out.r2 j hj).lt; omega) (by omega) (by omega), HB6.out⟩
   case measure => simp [intOf]; omega
  ·obtain rfl : i = N := by omega
   rcases HO1.out.2 with ⟨_, h⟩ | ⟨g1, cap1, cur1, rfl, hg1, hb1, hn1, hm1, hs1, ht1⟩
   ·omega
   rcases HO2.out.2 with ⟨_, h⟩ | ⟨g2, cap2, cur2, rfl, hg2, hb2, hn2, hm2, hs2, ht2⟩
   ·omega
   have hT : TightAt wr w.heap.size g1 g2 i cur1 cur2 ρ σ 27 124 3 4 D00 H00 :=
    ⟨hb1, hb2, HR.out, fun j hj => by
     have h := slV_at (ρ := ρ) (N := i) hj
     rw [← ht1, List.getElem?_take, if_pos (by omega)] at h
     simpa using h, fun j hj => by
     have h := slV_at (ρ := σ) (N := i) hj
     rw [← ht2, List.getElem?_take, if_pos (by omega)] at h
     simpa using h⟩
   have HT := Lib.hid hT
   have HTT := Lib.hid (TabT.init i zs)
   clear hb1 hb2 hs1 hs2 ht1 ht2 hT HO1 HO2 HR mk1 mk2 hg1 hg2
   unfold maxLen at hm1 hm2
   go_wp2_with fail
   clear hi1 hi1z hi1s hi1b hi2 hi2z hi2s hi2b i1 i2
   go_loopw [12] (fun rv wx => ∃ (r : Nat) (D : Nat → Nat → Int) (H : Nat → Nat → Bool), rv = .int .i64 r ∧ r ≤ 2 * i + 2 ∧ TightAt wx w.heap.size g1 g2 i cur1 cur2 ρ σ 27 124 3 4 D H ∧ TabT i zs r 0 (2 * zs.length * r) D H ∧ Below w.heap.size w wx) (fun rv _ => 2 * i + 2 - (intOf rv).toNat)
   case atStart => exact ⟨0, D00, H00, rfl, by omega, HT.out, by simpa using HTT.out, HB.out⟩
   case round =>
    clear HT HTT HB
    obtain ⟨r, D, H, rfl, hr, hT, hI, hB⟩ := hrel
    have HT := Lib.hid hT
    have HI := Lib.hid hI
    have HB := Lib.hid hB
    clear hT hI hB
    by_cases d1 : r < 2 * i + 2
    ·have d1' : decide ((r : Int) < 2 * (i : Int) + 2) = true := by simp; omega
     go_wp2_with fail
     go_loopw [13] (fun av wx => ∃ (a : Nat) (D : Nat → Nat → Int) (H : Nat → Nat → Bool), av = .int .i64 a ∧ a ≤ i ∧ TightAt wx w.heap.size g1 g2 i cur1 cur2 ρ σ 27 124 3 4 D H ∧ TabT i zs r a (2 * zs.length * r) D H ∧ Below w.heap.size w wx) (fun av _ => i - (intOf av).toNat)
     case atStart => exact ⟨0, D, H, rfl, by omega, HT.out, HI.out, HB.out⟩
     case round =>
      clear HT HI HB
      obtain ⟨a, D, H, rfl, ha, hT, hI, hB⟩ := hrel
      have HT := Lib.hid hT
      have HI := Lib.hid hI
      have HB := Lib.hid hB
      clear hT hI hB
      by_cases d2 : a < i
      ·have d2' : decide ((a : Int) < (i : Int)) = true := by simp; omega
       go_wp2_with fail
       go_loopw [14] (fun kv wx => ∃ (k : Nat) (D : Nat → Nat → Int) (H : Nat → Nat → Bool), kv = .int .i64 k ∧ k ≤ n ∧ TightAt wx w.heap.size g1 g2 i cur1 cur2 ρ σ 27 124 3 4 D H ∧ TabK i zs r a k (2 * zs.length * r) D H ∧ Below w.heap.size w wx) (fun kv _ => n - (intOf kv).toNat)
       case atStart => exact ⟨0, D, H, rfl, by omega, HT.out, HI.out.row, HB.out⟩
       case round =>
        clear HT HI HB
        obtain ⟨k, D, H, rfl, hk, hT, hI, hB⟩ := hrel
        have HT := Lib.hid hT
        have HI := Lib.hid hI
        have HB := Lib.hid hB
        clear hT hI hB
        by_cases d3 : k < n
        ·have d3' : decide ((k : Int) < (n : Int)) = true := by simp; omega
         obtain ⟨z, hz⟩ : ∃ z, zs[k]? = some z := ⟨_, List.getElem?_eq_getElem (by have := L1.out; omega)⟩
         obtain ⟨eb, eo, rfl, q1, q2⟩ := L5.out (by omega)
         have hed := HL.out z (List.mem_of_getElem? hz)
         unfold edgeB at hed
         obtain ⟨x, hx⟩ := Int.eq_ofNat_of_zero_le hed.1
         obtain ⟨y, hy⟩ := Int.eq_ofNat_of_zero_le hed.2.2.1
         have HE := Lib.hid (HI.out.edge HL.out d2 hz hx hy)
         have hS : 2 * zs.length * r + 2 * k + 1 ≤ 2000 := by
          have h1 := L1.out
          have h2 : zs.length * r ≤ 40 * 14 := Nat.mul_le_mul (by omega) (by omega)
          have h3 : 2 * zs.length * r = 2 * (zs.length * r) := by rw [Nat.mul_assoc]
          omega
         have BD := Lib.hid (fun j (hj : H a j = true) => RowT.bd HL.out (HI.out.at_ d2) (by omega) hj)
         have MID := Lib.hid (fun j hj => (HI.out.at_ d2).mid HL.out hS (w := z.hi) (a := x) (b := y) ⟨z, List.mem_of_getElem? hz, .inl ⟨hx, hy, rfl⟩⟩ (j := j) hj)
         clear hS
         obtain ⟨za, zb, zl, zh⟩ := z
         simp only [] at hx hy hed HE MID
         subst hx; subst hy
         have k0 : (0 : Int) ≤ (k : Int) := by omega
         have k1 : (k : Int) < (n : Int) := by omega
         have Q2 := Lib.hid q2
         have HZ := Lib.hid hz
         clear q2 hz
         obtain ⟨k2, k3, k4, k5, k6, k7⟩ := (show (0 : Int) ≤ (a : Int) ∧ (a : Int) < (i : Int) ∧ (0 : Int) ≤ (x : Int) ∧ (x : Int) < (i : Int) ∧ (0 : Int) ≤ (y : Int) ∧ (y : Int) < (i : Int) from by omega)
         obtain ⟨v1, hv1⟩ : ∃ v, D a x = v := ⟨_, rfl⟩
         obtain ⟨v2, hv2⟩ : ∃ v, D a y = v := ⟨_, rfl⟩
         obtain ⟨p1, hp1⟩ : ∃ v, H a x = v := ⟨_, rfl⟩
         obtain ⟨p2, hp2⟩ : ∃ v, H a y = v := ⟨_, rfl⟩
         have y1 := HT.out.x1 (j := a) (by omega)
         have y2 := HT.out.x2 (j := a) (by omega)
         have y3 := HT.out.d (j := a) (k := x) (by omega) (by omega)
         have y4 := HT.out.d (j := a) (k := y) (by omega) (by omega)
         have y5 := HT.out.h (j := a) (k := x) (by omega) (by omega)
         have y6 := HT.out.h (j := a) (k := y) (by omega) (by omega)
         have bx := BD.out x
         have by_ := BD.out y
         rw [hv1] at y3 bx
         rw [hv2] at y4 by_
         rw [hp1] at y5 bx
         rw [hp2] at y6 by_
         have HV1 := Lib.hid hv1
         have HV2 := Lib.hid hv2
         have HP1 := Lib.hid hp1
         have HP2 := Lib.hid hp2
         have x0 := (HB.out.cell (p := ⟨eb, eo + k * 4, none⟩) q1).trans (Q2.out k _ HZ.out 0 _ rfl)
         have x1 := (HB.out.cell (p := ⟨eb, eo + k * 4 + 1, none⟩) q1).trans (Q2.out k _ HZ.out 1 _ rfl)
         have x2 := (HB.out.cell (p := ⟨eb, eo + k * 4 + 2, none⟩) q1).trans (Q2.out k _ HZ.out 2 _ rfl)
         have x3 := (HB.out.cell (p := ⟨eb, eo + k * 4 + 3, none⟩) q1).trans (Q2.out k _ HZ.out 3 _ rfl)
         clear hv1 hv2 hp1 hp2
         go_upto_region 22 with fail
         go_cut [106] (fun u wx => u = .bool (p1 && (!p2 || decide (v1 + zh < v2))) ∧ wr.drew = wx)
         case first =>
          as_aux_lemma =>
          cases p1
          ·go_wp2_with fail
           go_region
           go_wp2_with fail
           go_meet
           case rel => exact ⟨rfl, rfl⟩
          ·cases p2
           ·go_wp2_with fail
            go_region
            go_wp2_with fail
            go_meet
            case rel => exact ⟨rfl, rfl⟩
           ·have bx := bx rfl
            have by_ := by_ rfl
            have e1 := IntWalk.i64_in (v1 + zh) (by omega)
            go_wp2_with fail
            go_region
            go_wp2_with fail
            go_meet
            case rel => exact ⟨by simp, rfl⟩
         case rest =>
          obtain ⟨rfl, hw⟩ := hcut
          obtain ⟨wa, rfl⟩ : ∃ wa : World, wa = wc := ⟨_, rfl⟩
          have HT2 := Lib.hid (show TightAt wa w.heap.size g1 g2 i cur1 cur2 ρ σ 27 124 3 4 D H by rw [← hw]; exact HT.out.drewN 1)
          have HB2 := Lib.hid (show Below w.heap.size w wa by rw [← hw]; exact HB.out.drew)
          clear hw HT HB x0 x1 x2 x3 y1 y2 y3 y4 y5 y6
          obtain ⟨T, hT⟩ : ∃ T, (p1 && (!p2 || decide (v1 + zh < v2))) = T := ⟨_, rfl⟩
          have HT0 := Lib.hid (show T = false → ¬ (H a x = true ∧ (H a y = false ∨ D a x + zh < D a y)) from fun q h => by
           rw [HP1.out, HP2.out, HV1.out, HV2.out] at h
           subst q
           obtain ⟨h1, h2⟩ := h
           subst h1
           rcases h2 with h2 | h2
           ·subst h2; simp at hT
           ·have h3 : v1 + zh < v2 := by omega
            simp [h3] at hT)
          have HT1 := Lib.hid (show T = true → (H a x = true ∧ (H a y = false ∨ D a x + zh < D a y)) from fun q => by
           rw [HP1.out, HP2.out, HV1.out, HV2.out]
           subst q
           cases p1
           ·simp at hT
           ·cases p2
            ·exact ⟨rfl, .inl rfl⟩
            ·refine ⟨rfl, .inr ?_⟩
             have h3 : v1 + zh < v2 := by simpa using hT
             omega)
          rw [hT]
          clear hT
          go_upto_if 106 with fail
          go_cut [106] (fun _ wx => TightAt wx w.heap.size g1 g2 i cur1 cur2 ρ σ 27 124 3 4 (rowUp D a (tryD (D a) (H a) x y (zh))) (rowUp H a (tryH (D a) (H a) x y (zh))) ∧ Below w.heap.size w wx)
          case first =>
           as_aux_lemma =>
           cases T
           ·have c := HT0.out rfl
            have HX := Lib.hid (show TightAt wa w.heap.size g1 g2 i cur1 cur2 ρ σ 27 124 3 4 (rowUp D a (tryD (D a) (H a) x y (zh))) (rowUp H a (tryH (D a) (H a) x y (zh))) by
             unfold tryD tryH
             rw [if_neg c, if_neg c, rowUp_same, rowUp_same]
             exact HT2.out)
            clear c
            go_wp2_with fail
            go_meet
            case rel => exact ⟨HX.out, HB2.out⟩
           ·have c := HT1.out rfl
            have hp := c.1
            rw [HP1.out] at hp
            have bx := bx hp
            have y1 := HT2.out.x1 (j := a) (by omega)
            have y3 := HT2.out.d (j := a) (k := x) (by omega) (by omega)
            have y4 := HT2.out.d (j := a) (k := y) (by omega) (by omega)
            rw [HV1.out] at y3
            rw [HV2.out] at y4
            have x2 := (HB2.out.cell (p := ⟨eb, eo + k * 4 + 2, none⟩) q1).trans (Q2.out k _ HZ.out 2 _ rfl)
            have x3 := (HB2.out.cell (p := ⟨eb, eo + k * 4 + 3, none⟩) q1).trans (Q2.out k _ HZ.out 3 _ rfl)
            have e1 := IntWalk.i64_in (v1 + zh) (by omega)
            have f1 := fun o => (HT2.out.rows.r1 a (by omega)).fz o
            have l1 := (HT2.out.rows.r1 a (by omega)).lt
            have HC := Lib.hid c
            clear c hp by_
            go_wp2_with fail
            go_region
            clear e1
            go_upto_region 24 with fail
            have HT3 := Lib.hid (show TightAt (wa.setCell ⟨ρ a, y, none⟩ (.int .i64 (v1 + zh))).drew w.heap.size g1 g2 i cur1 cur2 ρ σ 27 124 3 4 (up2 D a y (v1 + zh)) H from (HT2.out.setD (by decide) (by decide) (by decide) (by omega) y (v1 + zh)).drewN 1)
            have HB3 := Lib.hid (show Below w.heap.size w (wa.setCell ⟨ρ a, y, none⟩ (.int .i64 (v1 + zh))).drew from (HB2.out.setCell (p := ⟨ρ a, y, none⟩) (HT2.out.rows.b1 a (by omega)) _).drew)
            obtain ⟨wb, hwb⟩ : ∃ wb, (wa.setCell ⟨ρ a, y, none⟩ (.int .i64 (v1 + zh))).drew = wb := ⟨_, rfl⟩
            rw [hwb] at HT3 HB3 ⊢
            clear hwb y1 y3 y4 x2 x3 f1 l1
            have y2 := HT3.out.x2 (j := a) (by omega)
            have y6 := HT3.out.h (j := a) (k := y) (by omega) (by omega)
            have f2 := fun o => (HT3.out.rows.r2 a (by omega)).fz o
            have l2 := (HT3.out.rows.r2 a (by omega)).lt
            have HX := Lib.hid (show TightAt (wb.setCell ⟨σ a, y, none⟩ (.bool true)) w.heap.size g1 g2 i cur1 cur2 ρ σ 27 124 3 4 (rowUp D a (tryD (D a) (H a) x y (zh))) (rowUp H a (tryH (D a) (H a) x y (zh))) from (HT3.out.setH (by decide) (by decide) (by decide) (by omega) y).congr (by
             unfold tryD
             rw [if_pos HC.out, up2_row, HV1.out]) (by
             unfold tryH
             rw [if_pos HC.out, upH_row]))
            have HBX := Lib.hid (HB3.out.setCell (p := ⟨σ a, y, none⟩) (HT3.out.rows.b2 a (by omega)) (.bool true))
            go_wp2_with fail
            go_meet
            case rel => exact ⟨HX.out, HBX.out⟩
          case rest =>
           obtain ⟨hT5, hB5⟩ := hcut
           obtain ⟨w5, rfl⟩ : ∃ w5 : World, w5 = wc := ⟨_, rfl⟩
           have HBD := Lib.hid (fun j (hj : rowUp H a (tryH (D a) (H a) x y zh) a j = true) => MID.out j (by rw [rowUp_at] at hj; exact hj))
           obtain ⟨D5, hD5⟩ : ∃ D5, rowUp D a (tryD (D a) (H a) x y zh) = D5 := ⟨_, rfl⟩
           obtain ⟨H5, hH5⟩ : ∃ H5, rowUp H a (tryH (D a) (H a) x y zh) = H5 := ⟨_, rfl⟩
           have BD5 := Lib.hid (show ∀ j, H5 a j = true → -2000000000000000 ≤ D5 a j ∧ D5 a j ≤ 2000000000000000 from fun j hj => by rw [← hH5] at hj; have h := HBD.out j hj; rw [← hD5, rowUp_at]; exact h)
           rw [hD5, hH5] at hT5
           have HT5 := Lib.hid hT5
           have HB5 := Lib.hid hB5
           have HD5 := Lib.hid hD5
           have HH5 := Lib.hid hH5
           have HE5 := Lib.hid (show TabK i zs r a (k + 1) (2 * zs.length * r) (rowUp D5 a (tryD (D5 a) (H5 a) y x (-zl))) (rowUp H5 a (tryH (D5 a) (H5 a) y x (-zl))) by
            rw [← hD5, ← hH5, rowUp_at, rowUp_at, rowUp_rowUp, rowUp_rowUp]
            exact HE.out)
           clear hT5 hB5 hD5 hH5 HBD bx by_ HT2 HB2
           obtain ⟨v15, hv1⟩ : ∃ v, D5 a y = v := ⟨_, rfl⟩
           obtain ⟨v25, hv2⟩ : ∃ v, D5 a x = v := ⟨_, rfl⟩
           obtain ⟨p15, hp1⟩ : ∃ v, H5 a y = v := ⟨_, rfl⟩
           obtain ⟨p25, hp2⟩ : ∃ v, H5 a x = v := ⟨_, rfl⟩
           have y1 := HT5.out.x1 (j := a) (by omega)
           have y2 := HT5.out.x2 (j := a) (by omega)
           have y3 := HT5.out.d (j := a) (k := y) (by omega) (by omega)
           have y4 := HT5.out.d (j := a) (k := x) (by omega) (by omega)
           have y5 := HT5.out.h (j := a) (k := y) (by omega) (by omega)
           have y6 := HT5.out.h (j := a) (k := x) (by omega) (by omega)
           have bx := BD5.out y
           have by_ := BD5.out x
           rw [hv1] at y3 bx
           rw [hv2] at y4 by_
           rw [hp1] at y5 bx
           rw [hp2] at y6 by_
           have HV15 := Lib.hid hv1
           have HV25 := Lib.hid hv2
           have HP15 := Lib.hid hp1
           have HP25 := Lib.hid hp2
           have x0 := (HB5.out.cell (p := ⟨eb, eo + k * 4, none⟩) q1).trans (Q2.out k _ HZ.out 0 _ rfl)
           have x1 := (HB5.out.cell (p := ⟨eb, eo + k * 4 + 1, none⟩) q1).trans (Q2.out k _ HZ.out 1 _ rfl)
           have x2 := (HB5.out.cell (p := ⟨eb, eo + k * 4 + 2, none⟩) q1).trans (Q2.out k _ HZ.out 2 _ rfl)
           have x3 := (HB5.out.cell (p := ⟨eb, eo + k * 4 + 3, none⟩) q1).trans (Q2.out k _ HZ.out 3 _ rfl)
           clear hv1 hv2 hp1 hp2
           go_upto_region 25 with fail
           go_cut [173] (fun u wx => u = .bool (p15 && (!p25 || decide (v15 - zl < v25))) ∧ w5.drew = wx)
           case first =>
            as_aux_lemma =>
            cases p15
            ·go_wp2_with fail
             go_region
             go_wp2_with fail
             go_meet
             case rel => exact ⟨rfl, rfl⟩
            ·cases p25
             ·go_wp2_with fail
              go_region
              go_wp2_with fail
              go_meet
              case rel => exact ⟨rfl, rfl⟩
             ·have bx := bx rfl
              have by_ := by_ rfl
              have e1 := IntWalk.i64_in (v15 - zl) (by omega)
              go_wp2_with fail
              go_region
              go_wp2_with fail
              go_meet
              case rel => exact ⟨by simp, rfl⟩
           case rest =>
            obtain ⟨rfl, hw⟩ := hcut
            obtain ⟨wa5, rfl⟩ : ∃ wa : World, wa = wc := ⟨_, rfl⟩
            have HT25 := Lib.hid (show TightAt wa5 w.heap.size g1 g2 i cur1 cur2 ρ σ 27 124 3 4 D5 H5 by rw [← hw]; exact HT5.out.drewN 1)
            have HB25 := Lib.hid (show Below w.heap.size w wa5 by rw [← hw]; exact HB5.out.drew)
            clear hw HT5 HB5 x0 x1 x2 x3 y1 y2 y3 y4 y5 y6
            obtain ⟨T, hT⟩ : ∃ T, (p15 && (!p25 || decide (v15 - zl < v25))) = T := ⟨_, rfl⟩
            have HT05 := Lib.hid (show T = false → ¬ (H5 a y = true ∧ (H5 a x = false ∨ D5 a y + -zl < D5 a x)) from fun q h => by
             rw [HP15.out, HP25.out, HV15.out, HV25.out] at h
             subst q
             obtain ⟨h1, h2⟩ := h
             subst h1
             rcases h2 with h2 | h2
             ·subst h2; simp at hT
             ·have h3 : v15 - zl < v25 := by omega
              simp [h3] at hT)
            have HT15 := Lib.hid (show T = true → (H5 a y = true ∧ (H5 a x = false ∨ D5 a y + -zl < D5 a x)) from fun q => by
             rw [HP15.out, HP25.out, HV15.out, HV25.out]
             subst q
             cases p15
             ·simp at hT
             ·cases p25
              ·exact ⟨rfl, .inl rfl⟩
              ·refine ⟨rfl, .inr ?_⟩
               have h3 : v15 - zl < v25 := by simpa using hT
               omega)
            rw [hT]
            clear hT
            go_upto_if 173 with fail
            focus
             cases T
             ·have c := HT05.out rfl
              have HX := Lib.hid (show TightAt wa5 w.heap.size g1 g2 i cur1 cur2 ρ σ 27 124 3 4 (rowUp D5 a (tryD (D5 a) (H5 a) y x (-zl))) (rowUp H5 a (tryH (D5 a) (H5 a) y x (-zl))) by
               unfold tryD tryH
               rw [if_neg c, if_neg c, rowUp_same, rowUp_same]
               exact HT25.out)
              clear c
              go_wp2_with fail
              go_roundw
              case rel => exact ⟨k + 1, _, _, by go_num, by omega, HX.out, HE5.out, HB25.out⟩
              case measure => simp [intOf]; omega
             ·have c := HT15.out rfl
              have hp := c.1
              rw [HP15.out] at hp
              have bx := bx hp
              have y1 := HT25.out.x1 (j := a) (by omega)
              have y3 := HT25.out.d (j := a) (k := y) (by omega) (by omega)
              have y4 := HT25.out.d (j := a) (k := x) (by omega) (by omega)
              rw [HV15.out] at y3
              rw [HV25.out] at y4
              have x2 := (HB25.out.cell (p := ⟨eb, eo + k * 4 + 2, none⟩) q1).trans (Q2.out k _ HZ.out 2 _ rfl)
              have x3 := (HB25.out.cell (p := ⟨eb, eo + k * 4 + 3, none⟩) q1).trans (Q2.out k _ HZ.out 3 _ rfl)
              have e1 := IntWalk.i64_in (v15 - zl) (by omega)
              have f1 := fun o => (HT25.out.rows.r1 a (by omega)).fz o
              have l1 := (HT25.out.rows.r1 a (by omega)).lt
              have HC := Lib.hid c
              clear c hp by_
              go_wp2_with fail
              go_region
              clear e1
              go_upto_region 27 with fail
              have HT3 := Lib.hid (show TightAt (wa5.setCell ⟨ρ a, x, none⟩ (.int .i64 (v15 - zl))).drew w.heap.size g1 g2 i cur1 cur2 ρ σ 27 124 3 4 (up2 D5 a x (v15 - zl)) H5 from (HT25.out.setD (by decide) (by decide) (by decide) (by omega) x (v15 - zl)).drewN 1)
              have HB3 := Lib.hid (show Below w.heap.size w (wa5.setCell ⟨ρ a, x, none⟩ (.int .i64 (v15 - zl))).drew from (HB25.out.setCell (p := ⟨ρ a, x, none⟩) (HT25.out.rows.b1 a (by omega)) _).drew)
              obtain ⟨wb, hwb⟩ : ∃ wb, (wa5.setCell ⟨ρ a, x, none⟩ (.int .i64 (v15 - zl))).drew = wb := ⟨_, rfl⟩
              rw [hwb] at HT3 HB3 ⊢
              clear hwb y1 y3 y4 x2 x3 f1 l1
              have y2 := HT3.out.x2 (j := a) (by omega)
              have y6 := HT3.out.h (j := a) (k := x) (by omega) (by omega)
              have f2 := fun o => (HT3.out.rows.r2 a (by omega)).fz o
              have l2 := (HT3.out.rows.r2 a (by omega)).lt
              have HX := Lib.hid (show TightAt (wb.setCell ⟨σ a, x, none⟩ (.bool true)) w.heap.size g1 g2 i cur1 cur2 ρ σ 27 124 3 4 (rowUp D5 a (tryD (D5 a) (H5 a) y x (-zl))) (rowUp H5 a (tryH (D5 a) (H5 a) y x (-zl))) from (HT3.out.setH (by decide) (by decide) (by decide) (by omega) x).congr (by
               unfold tryD
               rw [if_pos HC.out, up2_row, HV15.out]; rw [Int.sub_eq_add_neg]) (by
               unfold tryH
               rw [if_pos HC.out, upH_row]))
              have HBX := Lib.hid (HB3.out.setCell (p := ⟨σ a, x, none⟩) (HT3.out.rows.b2 a (by omega)) (.bool true))
              go_wp2_with fail
              go_roundw
              case rel => exact ⟨k + 1, _, _, by go_num, by omega, HX.out, HE5.out, HBX.out⟩
              case measure => simp [intOf]; omega
        ·obtain rfl : k = n := by omega
         have HD := Lib.hid (show TabT i zs r (a + 1) (2 * zs.length * r) D H by
          have h := HI.out
          rw [← L1.out] at h
          exact h.done)
         go_wp2_with fail
         go_roundw
         case rel => exact ⟨a + 1, D, H, by go_num, by omega, HT.out, HD.out, HB.out⟩
         case measure => simp [intOf]; omega
      ·obtain rfl : a = i := by omega
       have HA := Lib.hid (show TabT a zs (r + 1) 0 (2 * zs.length * (r + 1)) D H by
        have h := HI.out.again
        rw [show 2 * zs.length * r + 2 * zs.length = 2 * zs.length * (r + 1) by rw [Nat.mul_add, Nat.mul_one]] at h
        exact h)
       go_wp2_with fail
       go_roundw
       case rel => exact ⟨r + 1, D, H, by go_num, by omega, HT.out, HA.out, HB.out⟩
       case measure => simp [intOf]; omega
    ·obtain rfl : r = 2 * i + 2 := by omega
     have HF := Lib.hid (HI.out.fine HL.out (by omega))
     have BDD := Lib.hid (fun a b (ha : a < i) (hb : H a b = true) => RowT.bd HL.out (by have h := HI.out a ha; simpa using h) (by
      have h1 := L1.out
      have h2 : zs.length * (2 * i + 2) ≤ 40 * 14 := Nat.mul_le_mul (by omega) (by omega)
      have h3 : 2 * zs.length * (2 * i + 2) = 2 * (zs.length * (2 * i + 2)) := by rw [Nat.mul_assoc]
      omega) hb)
     clear HI
     go_wp2_with fail
     go_loop [17] (fun av => ∃ a : Nat, av = .int .i64 a ∧ a ≤ i ∧ ∀ b, b < a → 0 ≤ D b b) (fun av => i - (intOf av).toNat)
     case atStart => exact ⟨0, rfl, by omega, fun b hb => absurd hb (by omega)⟩
     case round =>
      obtain ⟨a, rfl, ha, hp⟩ := hrel
      have HP := Lib.hid hp
      clear hp
      by_cases d5 : a < i
      ·have d5' : decide ((a : Int) < (i : Int)) = true := by simp; omega
       have y1 := HT.out.x1 (j := a) (by omega)
       have y3 := HT.out.d (j := a) (k := a) (by omega) (by omega)
       obtain ⟨v, hv⟩ : ∃ v, D a a = v := ⟨_, rfl⟩
       rw [hv] at y3
       have HV := Lib.hid hv
       have k2 : (0 : Int) ≤ (a : Int) := by omega
       have k3 : (a : Int) < (i : Int) := by omega
       clear hv
       rcases Int.lt_or_le v 0 with q | q
       ·have HN := Lib.hid (HF.out.1 ⟨a, d5, by rw [HV.out]; exact q⟩)
        go_wp2_with fail
        refine bodyPost_ret (v := .tuple #[.slice none 0 0, .slice none 0 0, .bool false]) (by simp [results, Tryz.results82, go_sem]) rfl ?_
        exact .inl ⟨HN.out, rfl, HB.out⟩
       ·go_wp2_with fail
        go_round
        case rel => exact ⟨a + 1, by go_num, by omega, fun b hb => by
         by_cases e : b = a
         ·subst e; rw [HV.out]; exact q
         ·exact HP.out b (by omega)⟩
        case measure => simp [intOf]; omega
      ·obtain rfl : a = i := by omega
       have d5' : decide ((a : Int) < (a : Int)) = false := by simp
       have HN := Lib.hid (HF.out.2 HP.out)
       have HM := Lib.hid (HT.out.mats hn1 hn2 (by unfold maxLen; omega) (by unfold maxLen; omega))
       go_wp2_with fail
       refine bodyPost_ret (v := .tuple #[.slice (some ⟨g1, 0, none⟩) a cap1, .slice (some ⟨g2, 0, none⟩) a cap2, .bool true]) (by simp [results, Tryz.results82, go_sem]) rfl ?_
       exact .inr ⟨HN.out.1, D, H, _, _, _, _, rfl, HN.out.2, BDD.out, HM.out.1, HM.out.2, HB.out⟩
end Go.Proofs.YtldlandcjegikaaGreatDoor
