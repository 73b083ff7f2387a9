/- Proved: the tied card of noonlaw1.TreeTells: it answers true for every input and leaves its arguments as they were. The card's own condition: errors.errorType holds what the program's text lays there. -/
import Derived.Test.YtepfbgbdcljlmaaDoorDoor
import Derived.Test.YtepfbgbdcljlmaaDoorTreeS
import Derived.Test.YtepfbgbdcljlmaaDoorSame
namespace Go.Proofs.YtepfbgbdcljlmaaDoor.lTreeTells
open Go.ChangeShapes Go.WideShapes Go.ChangeAt Go.RowKit
set_option linter.unusedVariables false
set_option linter.unusedSimpArgs false
theorem tree_Spans_no (N : Int) (A : Option Addr) (n c : Nat) (zs : List REdge) (R : Int) (w : World) (hz : IsRecs w REdge.cells REdge.ok 4 A n c zs) (ht : treeC N zs R ≠ 0) :
    Calls Tryd.prog 12 #[.int .i64 N, .slice A n c, .int .i64 R] w fun e w' => SpansP w w' e [] [] (treeC N zs R) := by
  have hm1 := hz.2.1
  have hm2 := hz.2.2.1
  unfold maxLen at hm2
  have C := Lib.hid (tree_ready N A n c zs R w hz)
  rw [errV_ne ht] at C
  have HT := Lib.hid ht
  clear hz ht
  go_enter Tryd.func12, Tryd.ntmps12
  go_wp2_with fail
  refine C.out.mono ?_
  rintro e w1 ⟨rfl, hb1⟩
  go_wp2_with fail
  refine bodyPost_ret (v := .tuple #[.slice none 0 0, .slice none 0 0, .iface 53 (.int .i64 (treeC N zs R))]) (by simp [results, Tryd.results12, go_sem]) rfl ?_
  exact ⟨none, 0, 0, none, 0, 0, by rw [errV_ne HT.out], recs_nil _ _ _ _, bools_nil _, hb1⟩
theorem treeC_e (N : Int) (zs : List REdge) (R : Int) : treeC N zs R = if edgesC N zs = 0 then (if 0 ≤ R ∧ R < N then 0 else 1) else edgesC N zs := by
  unfold treeC
  by_cases h : edgesC N zs = 0
  · rw [if_pos h, if_pos h]
    by_cases g : 0 ≤ R ∧ R < N
    · rw [if_pos g, if_pos (nodeB_iff.2 g)]
    · rw [if_neg g, if_neg (fun q => g (nodeB_iff.1 q))]
  · rw [if_neg h, if_neg h]
set_option maxRecDepth 100000 in
set_option maxHeartbeats 16000000 in
theorem walk (a0 : Int) (a1 : Option Addr) (n1 c1 : Nat) (z1 : List REdge) (a2 : Int) (w : World) (h0 : -9223372036854775808 ≤ a0 ∧ a0 ≤ 9223372036854775807) (h1 : IsRecs w REdge.cells REdge.ok 4 a1 n1 c1 z1) (h2 : -9223372036854775808 ≤ a2 ∧ a2 ≤ 9223372036854775807) (hg : HandleAt w) :
    Calls Tryd.prog 4 #[.int .i64 a0, .slice a1 n1 c1, .int .i64 a2] w fun e w' => e = .returned (.bool true) ∧ Below w.heap.size w w' := by
  have HG := Lib.hid hg
  clear hg
  have hm1 := h1.2.1
  have hm2 := h1.2.2.1
  unfold maxLen at hm2
  have HZ := Lib.hid h1
  have CE := Lib.hid (fun w' (hb : Below w.heap.size w w') => r1_Edges a0 a1 n1 c1 z1 w' (h1.below hb))
  have CP := Lib.hid (fun w' (hb : Below w.heap.size w w') => tree_Parents a0 a1 n1 c1 z1 a2 w' (h1.below hb))
  clear h1
  by_cases ht : treeC a0 z1 a2 = 0
  · obtain ⟨cc, cR0, cR1⟩ := treeC_0 ht
    obtain ⟨c4, c5, c6, c7⟩ := edgesC_0 cc
    obtain ⟨N, rfl⟩ := Int.eq_ofNat_of_zero_le (show 0 ≤ a0 by omega)
    obtain ⟨R, rfl⟩ := Int.eq_ofNat_of_zero_le cR0
    have hRN : R < N := by omega
    have hN1 : 1 ≤ N := by omega
    have hN6 : N ≤ 6 := by omega
    simp only [Int.toNat_natCast] at c7
    have hln := HZ.out.1
    have HL := Lib.hid hln
    have hn40 : n1 ≤ 40 := by omega
    have C7 := Lib.hid c7
    have HG0 := HG
    clear HG
    have CS := Lib.hid (fun w' (hb : Below w.heap.size w w') => tree_Spans_ok N R a1 n1 c1 z1 w' (HZ.out.below hb) cc hRN)
    have CR := Lib.hid (fun w' (hb : Below w.heap.size w w') => r1_Parents N R a1 n1 c1 z1 w' (HZ.out.below hb) hN1 hN6 hRN hn40 c7)
    have hp : parD N z1 R = (tFin z1 N R).by_ := by unfold parD; rw [if_pos ht, Int.toNat_natCast, Int.toNat_natCast]
    have HTK := Lib.hid (TOk.st (l := z1) (n := N) (root := R) hRN c7 N)
    obtain ⟨T, eT⟩ : ∃ T, tFin z1 N R = T := ⟨_, rfl⟩
    rw [hp, ht, eT] at CP
    rw [cc] at CE
    rw [eT] at CR
    have HT := Lib.hid (show TOk z1 N R T from by rw [← eT]; exact HTK.out)
    have HD := Lib.hid (show spD N R z1 = spGo z1 T.by_ (T.row.drop 1) (List.replicate N ⟨0, 0⟩) ((List.replicate N false).set R true) from by rw [← eT, List.drop_one]; rfl)
    have d1' : ¬ (R : Int) < 0 := by omega
    have d2' : ¬ (N : Int) ≤ (R : Int) := by omega
    have mk3 := make_spans N (by omega)
    have mk4 := run_make_row' (P := Tryd.prog) 39 4 (.bool false) 1 Tryd.underlying39 infoB rfl .i64 .i64 N (by omega) (by omega)
    rw [made_b] at mk4
    clear ht cc c7 hp eT HTK hln h0 h2 cR0
    go_enter Tryd.func4, Tryd.ntmps4
    go_wp2_with fail
    refine (CE.out w (Below.refl _ _)).mono ?_
    rintro e w1 ⟨rfl, hb1⟩
    have HB1 := Lib.hid hb1
    clear hb1
    go_wp2_with fail
    refine (CR.out _ HB1.out).mono ?_
    rintro e w2 ⟨A1, m1, d1, A2, m2, d2, rfl, i1, i2, hb2⟩
    have HB2 := Lib.hid (HB1.out.trans (hb2.mono HB1.out.size))
    have I1 := Lib.hid i1
    have I2 := Lib.hid i2
    have em1 : m1 = N := by rw [← i1.1, HT.out.bl]
    subst em1
    have p1 := i1.2.1
    have p2 := i1.2.2.1
    have p3 := i2.2.1
    have p4 := i2.2.2.1
    have p5 := i2.1
    have p6 := HT.out.pos
    have p7 := HT.out.len
    unfold maxLen at p2 p4
    clear i1 i2 hb2
    go_wp2_with fail
    refine (CP.out _ HB2.out).mono ?_
    rintro e w3 ⟨P, pn, pc, rfl, hP, hb3⟩
    have HB3 := Lib.hid (HB2.out.trans (hb3.mono HB2.out.size))
    have I1 := Lib.hid (I1.out.below hb3)
    have I2 := Lib.hid (I2.out.below hb3)
    have HP := Lib.hid hP
    clear hP hb3
    go_wp2_with fail
    refine (Error_nil _ _ (HG0.out.below HB3.out)).mono ?_
    rintro e w4 ⟨rfl, hb4⟩
    have HB4 := Lib.hid (HB3.out.trans (hb4.mono HB3.out.size))
    have I1 := Lib.hid (I1.out.below hb4)
    have I2 := Lib.hid (I2.out.below hb4)
    have HP := Lib.hid (HP.out.below hb4)
    clear hb4
    go_wp2_with fail
    refine (same_Ints P A1 pn pc m1 d1 T.by_ w4 HP.out I1.out).mono ?_
    rintro e w5 ⟨rfl, hb5⟩
    have HB5 := Lib.hid (HB4.out.trans (hb5.mono HB4.out.size))
    have I1 := Lib.hid (I1.out.below hb5)
    have I2 := Lib.hid (I2.out.below hb5)
    clear hb5 CE CP CR
    obtain ⟨b2, o2, rfl, q1, q2⟩ := I2.out.2.2.2.2 (by omega)
    obtain ⟨b1, o1, rfl, q3, q4⟩ := I1.out.2.2.2.2 (by omega)
    have Q2 := Lib.hid q2
    have Q4 := Lib.hid q4
    clear q2 q4
    go_upto_region 15 with fail
    clear mk3 mk4
    have hgs : ∃ wg, ((w5.alloc (.cells (SCells (List.replicate m1 ⟨0, 0⟩)) 24)).alloc (.cells (BCells (List.replicate m1 false)) 4)) = wg ∧ Blk wg w5.heap.size 24 (SCells (List.replicate m1 ⟨0, 0⟩)) ∧ Blk wg (w5.heap.size + 1) 4 (BCells (List.replicate m1 false)) ∧ Below w5.heap.size w5 wg :=
      ⟨_, rfl, (Blk.new _ _ _).alloc _, Blk.newAt2 _ _ _ _, (by repeat (first | with_reducible exact Below.refl _ _ | (with_reducible refine Below.alloc ?_ (by first | omega | (simp; done) | (simp; omega)) _) | (with_reducible refine Below.setCell ?_ (by first | omega | (simp; done) | (simp; omega)) _) | (with_reducible refine Below.drew ?_) | (with_reducible refine below_drewN ?_ _) | (with_reducible assumption) | (with_reducible refine bel_step (by with_reducible assumption) ?_ (by first | omega | (simp; done) | (simp; omega)))))⟩
    obtain ⟨wg, eg, hk1, hk2, hbc⟩ := hgs
    rw [eg]
    have xc := hk2.bat (i := R) (v := false) (by rw [List.getElem?_replicate, if_pos hRN])
    have xf := hk2.fz R
    have xl := hk2.lt
    obtain ⟨g1, eg1⟩ : ∃ g, w5.heap.size = g := ⟨_, rfl⟩
    obtain ⟨g2, eg2⟩ : ∃ g, w5.heap.size + 1 = g := ⟨_, rfl⟩
    have HK1 := Lib.hid (hk1.far (p := ⟨w5.heap.size + 1, R, none⟩) (by simp) (.bool true))
    have HK2 := Lib.hid (hk2.bset R true)
    have HBC := Lib.hid (hbc.setCell (p := ⟨w5.heap.size + 1, R, none⟩) (by simp) (.bool true))
    have hg1 : w5.heap.size ≤ g1 := by omega
    have hg2 : w5.heap.size ≤ g2 := by omega
    have g12 : g1 ≠ g2 := by omega
    rw [eg2] at HK1 HK2 HBC xc xf xl ⊢
    rw [eg1] at HK1 ⊢
    have kr : (R : Int) < (m1 : Int) := by omega
    have SZ := Lib.hid (show w5.heap.size = g1 ∧ g2 = g1 + 1 from by omega)
    clear hk1 hk2 hbc eg eg1 eg2
    go_wp2_with fail
    clear xc xf
    go_loopw [7, 16] (fun ev iv wx => ∃ (i : Nat) (e : Int) (out : List RSpan) (inn : List Bool), ev = .int .i64 e ∧ iv = .int .i64 i ∧ (1 ≤ i ∧ i ≤ m2) ∧ Blk wx g1 24 (SCells out) ∧ Blk wx g2 4 (BCells inn) ∧ SpOk m1 out inn ∧
      ((e = 0 ∧ spGo z1 T.by_ (T.row.drop i) out inn = spD m1 R z1) ∨ (e = 1 ∧ spD m1 R z1 = none)) ∧ Below w5.heap.size w5 wx) (fun _ iv _ => m2 - (intOf iv).toNat)
    case atStart => exact ⟨1, 0, _, _, rfl, rfl, ⟨by omega, by omega⟩, HK1.out, HK2.out, ⟨by simp, by simp, fun z hz => by rw [(List.mem_replicate.1 hz).2]; rfl⟩, .inl ⟨rfl, by rw [HD.out]⟩, HBC.out⟩
    case round =>
      obtain ⟨k, e0, out, inn, rfl, rfl, ⟨hk1, hk⟩, hb1, hb2, hS, hG, hB⟩ := hrel
      have HK1 := Lib.hid hb1
      have HK2 := Lib.hid hb2
      have HS := Lib.hid hS
      have HB := Lib.hid hB
      have hzw := hB.size
      have g1l := hb1.lt
      have g2l := hb2.lt
      clear hb1 hb2 hS hB
      by_cases d0 : k < m2 ∧ e0 = 0
      · obtain ⟨d0, rfl⟩ := d0
        have hG : spGo z1 T.by_ (T.row.drop k) out inn = spD m1 R z1 := by
          rcases hG with ⟨_, h⟩ | ⟨h, _⟩
          · exact h
          · omega
        have HG := Lib.hid hG
        clear hG
        obtain ⟨xi, hxi⟩ : ∃ x, T.row[k]? = some x := ⟨_, List.getElem?_eq_getElem (by omega)⟩
        have hxm := List.mem_of_getElem? hxi
        have hxb := HT.out.rb xi hxm
        obtain ⟨x, rfl⟩ := Int.eq_ofNat_of_zero_le hxb.1
        have hxn : x < m1 := by omega
        have hne : x ≠ R := by
          rintro rfl
          obtain ⟨t, ht⟩ := HT.out.hd
          have hnd := HT.out.nd
          obtain ⟨k', rfl⟩ : ∃ k', k = k' + 1 := ⟨k - 1, by omega⟩
          rw [ht] at hxi hnd
          have := (List.nodup_cons.1 hnd).1
          exact this (List.mem_of_getElem? (by simpa using hxi))
        obtain ⟨kk, hkk, hby⟩ := HT.out.key x hxm hne
        obtain ⟨z, hz⟩ : ∃ z, z1[kk]? = some z := ⟨_, List.getElem?_eq_getElem hkk⟩
        have hed := C7.out z (List.mem_of_getElem? hz)
        have hln := HL.out
        obtain ⟨b, off, rfl, q5, q6⟩ := HZ.out.2.2.2.2 (by omega)
        have BW := Lib.hid (HB5.out.trans (HB.out.mono HB5.out.size))
        have x0 := (BW.out.cell (p := ⟨b, off + kk * 4, none⟩) q5).trans (q6 kk z hz 0 _ rfl)
        have x1 := (BW.out.cell (p := ⟨b, off + kk * 4 + 1, none⟩) q5).trans (q6 kk z hz 1 _ rfl)
        have x2 := (BW.out.cell (p := ⟨b, off + kk * 4 + 2, none⟩) q5).trans (q6 kk z hz 2 _ rfl)
        have x3 := (BW.out.cell (p := ⟨b, off + kk * 4 + 3, none⟩) q5).trans (q6 kk z hz 3 _ rfl)
        have y0 : wr.cell? ⟨b2, o2 + k, none⟩ = some (.int .i64 (x : Int)) := by
          have h := Q2.out k _ hxi 0 _ rfl
          rw [show o2 + k * 1 + 0 = o2 + k by omega] at h
          exact (HB.out.cell (p := ⟨b2, _, none⟩) q1).trans h
        have y1 : wr.cell? ⟨b1, o1 + x, none⟩ = some (.int .i64 (kk : Int)) := by
          have h := Q4.out x _ hby 0 _ rfl
          rw [show o1 + x * 1 + 0 = o1 + x by omega] at h
          exact (HB.out.cell (p := ⟨b1, _, none⟩) q3).trans h
        obtain ⟨za, zb, zl, zh⟩ := z
        unfold edgeB at hed
        obtain ⟨ea, eb, ec, ed, ee, ef, eg, eh⟩ := hed
        dsimp only at ea eb ec ed ee ef eg eh
        dsimp only [REdge.cells] at x0 x1 x2 x3
        obtain ⟨a, rfl⟩ := Int.eq_ofNat_of_zero_le ea
        obtain ⟨c', rfl⟩ := Int.eq_ofNat_of_zero_le ec
        have HGG := Lib.hid ((spGo_at (l := z1) (by_ := T.by_) hxi out inn).symm.trans HG.out)
        have k0 : (0 : Int) ≤ (kk : Int) := by omega
        have k1 : (kk : Int) < (n1 : Int) := by omega
        have k2 : (0 : Int) ≤ (x : Int) := by omega
        have k3 : (x : Int) < (m1 : Int) := by omega
        have k6 : (0 : Int) ≤ (k : Int) := by omega
        have k7 : (k : Int) < (m2 : Int) := by omega
        have HXI := Lib.hid hxi
        have HBY := Lib.hid hby
        have HZK := Lib.hid hz
        have m3 : b < wr.heap.size := by have := HB5.out.size; omega
        have m4 : b1 < wr.heap.size := by omega
        have m5 : b2 < wr.heap.size := by omega
        clear q6 hby hz hxi hxm
        have KA := Lib.hid (show ∀ f fl fh, a ≠ x → f = a → out[f]? = some ⟨fl, fh⟩ → spSum z1 T.by_ out x = ⟨fl + zl, fh + zh⟩ from fun f fl fh hne hf ho => by
          rw [spSum_eq HBY.out HZK.out (f := f) ho (by subst hf; rw [if_neg (by simp only []; omega)]), if_neg (by simp only []; omega)])
        have KB := Lib.hid (show ∀ f fl fh, a = x → f = c' → out[f]? = some ⟨fl, fh⟩ → spSum z1 T.by_ out x = ⟨fl + -zh, fh + -zl⟩ from fun f fl fh he hf ho => by
          rw [spSum_eq HBY.out HZK.out (f := f) ho (by subst hf; rw [if_pos (by simp only []; omega)]), if_pos (by simp only []; omega)])
        go_wp2_with fail
        go_region
        have hw3 : ∃ w3, ((wr.alloc (.cells #[.int .i64 (a : Int), .int .i64 (c' : Int), .int .i64 zl, .int .i64 zh] 26)).alloc (.cells #[.int .i64 zl, .int .i64 zh] 24)).drew = w3 ∧ Below wr.heap.size wr w3 ∧ w3.heap.size = wr.heap.size + 2 ∧
            w3.cell? ⟨wr.heap.size, 0, none⟩ = some (.int .i64 (a : Int)) ∧ Blk w3 wr.heap.size 26 #[.int .i64 (a : Int), .int .i64 (c' : Int), .int .i64 zl, .int .i64 zh] ∧ Blk w3 (wr.heap.size + 1) 24 #[.int .i64 zl, .int .i64 zh] :=
          ⟨_, rfl, (by repeat (first | with_reducible exact Below.refl _ _ | (with_reducible refine Below.alloc ?_ (by first | omega | (simp; done) | (simp; omega)) _) | (with_reducible refine Below.setCell ?_ (by first | omega | (simp; done) | (simp; omega)) _) | (with_reducible refine Below.drew ?_) | (with_reducible refine below_drewN ?_ _) | (with_reducible assumption) | (with_reducible refine bel_step (by with_reducible assumption) ?_ (by first | omega | (simp; done) | (simp; omega))))), by simp, by simp, ((Blk.new _ _ _).alloc _).drewN 1, (Blk.newAt2 _ _ _ _).drewN 1⟩
        obtain ⟨w3, e3, hb3, s3, u0, u1, u2⟩ := hw3
        rw [e3]
        have u3 := u2.cell 0
        have u4 := u2.cell 1
        have u5 := fun o => u2.fz o
        have u6 := u1.cell 1
        have u7 := u1.cell 2
        have u8 := u1.cell 3
        simp at u3 u4 u6 u7 u8
        have U2 := Lib.hid u2
        have HB3 := Lib.hid hb3
        have s4 : wr.heap.size + 1 < w3.heap.size := by omega
        have s5 : wr.heap.size < w3.heap.size := by omega
        clear e3 hb3 u2 x0 x1 x2 x3 y0 y1 u1
        go_upto_if 102 with fail
        go_cut [18] (fun u wx => ∃ (f : Nat) (sl sh : Int), u = .int .i64 f ∧ f < m1 ∧ rightB sl sh = true ∧ (∀ fl fh, out[f]? = some ⟨fl, fh⟩ → spSum z1 T.by_ out x = ⟨fl + sl, fh + sh⟩) ∧ Blk wx (wr.heap.size + 1) 24 #[.int .i64 sl, .int .i64 sh] ∧ Below wr.heap.size wr wx)
        case first =>
          by_cases c0 : a = x
          · have KBB := Lib.hid (fun fl fh => KB.out c' fl fh c0 rfl)
            subst c0
            have c1 : ((a : Int) == (a : Int)) = true := by simp
            go_wp2_with fail
            go_meet
            case rel => exact ⟨c', -zh, -zl, rfl, by omega, rightB_iff.2 (by omega), KBB.out, (U2.out.set 0 (.int .i64 (-zh))).set 1 (.int .i64 (-zl)), (HB3.out.setCell (by simp) _).setCell (by simp) _⟩
          · have KAA := Lib.hid (fun fl fh => KA.out a fl fh c0 rfl)
            have c1 : ((a : Int) == (x : Int)) = false := by simp; omega
            have c2 : (a == x) = false := by simpa using c0
            clear c0
            go_wp2_with fail
            go_meet
            case rel => exact ⟨a, zl, zh, rfl, by omega, rightB_iff.2 (by omega), KAA.out, U2.out, HB3.out⟩
        case rest =>
          obtain ⟨f, sl, sh, rfl, hf, hsr, hsum, hk5, hb5⟩ := hcut
          obtain ⟨wa, rfl⟩ : ∃ wa : World, wa = wc := ⟨_, rfl⟩
          clear KA KB U2 HB3 u0 u3 u4 u5 u6 u7 u8
          obtain ⟨s, hs⟩ : ∃ s, out[f]? = some s := ⟨_, List.getElem?_eq_getElem (by rw [HS.out.o]; omega)⟩
          have hrs := HS.out.r s (List.mem_of_getElem? hs)
          obtain ⟨fl, fh⟩ := s
          have hsm := hsum fl fh hs
          have hk6 := HK1.out.below hb5 g1l
          have z0 := hk6.sat0 hs
          have z1' := hk6.sat1 hs
          have v0 := hk5.cell 0
          have v1 := hk5.cell 1
          simp at v0 v1
          dsimp only at z0 z1' hrs
          have b1' := rightB_iff.1 hrs
          have b2' := rightB_iff.1 hsr
          have Y2 := Lib.hid (IntWalk.i64_in (fl + sl) (by omega))
          have Y3 := Lib.hid (IntWalk.i64_in (fh + sh) (by omega))
          have k4 : (0 : Int) ≤ (f : Int) := by omega
          have k5 : (f : Int) < (m1 : Int) := by omega
          have HB5' := Lib.hid hb5
          have s6 := hb5.size
          have s7 := hk5.lt
          have s8 := hk6.lt
          have hgg := HGG.out
          rw [hsm] at hgg
          have HGGG := Lib.hid hgg
          clear hs hsum hsm hk5 hk6 hb5 hgg hrs hsr
          go_wp2_with fail
          have y2 := Y2.out
          have y3 := Y3.out
          go_region
          clear y2 y3
          have hw6 : ∃ w6, (wa.alloc (.cells #[.int .i64 (fl + sl), .int .i64 (fh + sh)] 24)).drew = w6 ∧ Below wa.heap.size wa w6 ∧ w6.cell? ⟨wa.heap.size, 0, none⟩ = some (.int .i64 (fl + sl)) ∧ w6.cell? ⟨wa.heap.size, 1, none⟩ = some (.int .i64 (fh + sh)) ∧ wa.heap.size < w6.heap.size :=
            ⟨_, rfl, (by repeat (first | with_reducible exact Below.refl _ _ | (with_reducible refine Below.alloc ?_ (by first | omega | (simp; done) | (simp; omega)) _) | (with_reducible refine Below.setCell ?_ (by first | omega | (simp; done) | (simp; omega)) _) | (with_reducible refine Below.drew ?_) | (with_reducible refine below_drewN ?_ _) | (with_reducible assumption) | (with_reducible refine bel_step (by with_reducible assumption) ?_ (by first | omega | (simp; done) | (simp; omega))))), by simp, by simp, by simp⟩
          obtain ⟨w6, e6, hb6, t0, t1, t2⟩ := hw6
          rw [e6]
          have HB6 := Lib.hid (HB.out.trans ((HB5'.out.trans (hb6.mono s6)).mono hzw))
          clear e6 z0 z1' v0 v1
          go_wp2_with fail
          refine (r1_Span _ _ _).mono ?_
          rintro e w7 ⟨rfl, hb7⟩
          have HB7 := Lib.hid (HB6.out.trans (hb7.mono HB6.out.size))
          have t3 := (hb7.cell (p := ⟨wa.heap.size, 0, none⟩) t2).trans t0
          have t4 := (hb7.cell (p := ⟨wa.heap.size, 1, none⟩) t2).trans t1
          have t5 := hb7.size
          have hk1' := ((HK1.out.below HB5'.out g1l).below hb6 (by omega)).below hb7 (by omega)
          have hk2' := ((HK2.out.below HB5'.out g2l).below hb6 (by omega)).below hb7 (by omega)
          have y0 : w7.cell? ⟨b2, o2 + k, none⟩ = some (.int .i64 (x : Int)) := by
            have h := Q2.out k _ (show T.row[k]? = some (x : Int) from HXI.out) 0 _ rfl
            rw [show o2 + k * 1 + 0 = o2 + k by omega] at h
            exact (HB7.out.cell (p := ⟨b2, _, none⟩) q1).trans h
          clear hb6 hb7 t0 t1
          cases hr : rightB (fl + sl) (fh + sh)
          · have hnone : spD m1 R z1 = none := by rw [← HGGG.out, if_neg (by rw [hr]; simp)]
            have HN := Lib.hid hnone
            have HH1 := Lib.hid hk1'
            have HH2 := Lib.hid hk2'
            clear hnone hr hk1' hk2'
            go_wp2_with fail
            go_roundw
            case rel => exact ⟨k + 1, 1, out, inn, rfl, by go_num, ⟨by omega, by omega⟩, HH1.out, HH2.out, HS.out, .inr ⟨rfl, HN.out⟩, HB7.out⟩
            case measure => simp [intOf]; omega
          · have hgg : spGo z1 T.by_ (T.row.drop (k + 1)) (out.set x ⟨fl + sl, fh + sh⟩) (inn.set x true) = spD m1 R z1 := by
              have h := HGGG.out
              rw [if_pos hr] at h
              exact h
            have HSN := Lib.hid (HS.out.set x (z := ⟨fl + sl, fh + sh⟩) hr)
            have HN := Lib.hid hgg
            obtain ⟨so, hso⟩ : ∃ s, out[x]? = some s := ⟨_, List.getElem?_eq_getElem (by rw [HS.out.o]; omega)⟩
            obtain ⟨si, hsi⟩ : ∃ s, inn[x]? = some s := ⟨_, List.getElem?_eq_getElem (by rw [HS.out.b]; omega)⟩
            have z2 := hk1'.sat0 hso
            have z3 := hk1'.sat1 hso
            have z4 := hk2'.bat hsi
            have zf1 := fun o => hk1'.fz o
            have zf2 := fun o => hk2'.fz o
            have nb1 : b2 ≠ g1 := by omega
            have nb2 : b2 ≠ g2 := by omega
            have HH1 := Lib.hid hk1'
            have HH2 := Lib.hid hk2'
            clear hgg hr hk1' hk2' hso hsi
            go_wp2_with fail
            go_region
            go_wp2_with fail
            go_roundw
            case rel => exact ⟨k + 1, 0, _, _, rfl, by go_num, ⟨by omega, by omega⟩, ((HH1.out.sset x (fl + sl) (fh + sh)).far (by simp; exact g12) _).drewN 1, (((HH2.out.far (by simp; exact fun q => g12 q.symm) _).far (by simp; exact fun q => g12 q.symm) _).bset x true).drewN 1, HSN.out, .inl ⟨rfl, HN.out⟩, (((HB7.out.setCell hg1 _).setCell hg1 _).setCell hg2 _).drew⟩
            case measure => simp [intOf]; omega
      · have hx : (e0 = 1 ∧ spD m1 R z1 = none) ∨ (e0 = 0 ∧ k = m2 ∧ spD m1 R z1 = some (out, inn)) := by
          rcases hG with ⟨h1, h2⟩ | ⟨h1, h2⟩
          · right
            have hkm : k = m2 := by omega
            refine ⟨h1, hkm, ?_⟩
            rw [← h2, hkm]
            exact spGo_end (by omega) _ _
          · exact .inl ⟨h1, h2⟩
        have HBW := Lib.hid (HB5.out.trans (HB.out.mono HB5.out.size))
        clear hG d0
        rcases hx with ⟨rfl, hx⟩ | ⟨rfl, rfl, hx⟩
        · have C1 := Lib.hid (fun w' hb => ((CS.out w' hb).mono fun e w'' h => h.2 hx))
          have hkk : (k < m2) ∨ ¬ (k < m2) := by omega
          clear hx
          rcases hkk with h8 | h8
          all_goals
            go_wp2_with fail
            refine (C1.out _ HBW.out).mono ?_
            rintro e w8 ⟨S, sn, sc, B, bn, bc, rfl, hS, hI, hb8⟩
            have HB8 := Lib.hid (HBW.out.trans (hb8.mono HBW.out.size))
            have HSS := Lib.hid hS
            have HI := Lib.hid hI
            clear hS hI hb8
            go_wp2_with fail
            refine (Error_n 1 _ (by omega) _ (HG0.out.below HB8.out)).mono ?_
            rintro e w9 ⟨rfl, hb9⟩
            have HB9 := Lib.hid (HB8.out.trans (hb9.mono HB8.out.size))
            have HS6 := Lib.hid (HSS.out.below hb9)
            have HI6 := Lib.hid (HI.out.below hb9)
            clear hb9
            go_wp2_with fail
            refine (same_Spans S none sn sc 0 0 [] w9 HS6.out (recs_nil _ _ _ _)).mono ?_
            rintro e wd ⟨rfl, hbd⟩
            have HBD := Lib.hid (HB9.out.trans (hbd.mono HB9.out.size))
            have HI7 := Lib.hid (HI6.out.below hbd)
            clear hbd
            go_wp2_with fail
            refine (same_Bools B none bn bc 0 0 [] wd HI7.out (bools_nil _)).mono ?_
            rintro e we ⟨rfl, hbe⟩
            have HBE := Lib.hid (HBD.out.trans (hbe.mono HBD.out.size))
            clear hbe
            go_wp2_with fail
            go_ret
            exact ⟨rfl, HBE.out⟩
        · have C1 := Lib.hid (fun w' hb => ((CS.out w' hb).mono fun e w'' h => h.1 _ _ hx))
          have HW1 := Lib.hid (HK1.out.spans HS.out.o (by unfold maxLen; omega) (fun z hz => by have := rightB_iff.1 (HS.out.r z hz); unfold RSpan.ok i64B; omega))
          have HW2 := Lib.hid (HK2.out.bools HS.out.b (by unfold maxLen; omega))
          clear hx
          go_wp2_with fail
          refine (C1.out _ HBW.out).mono ?_
          rintro e w8 ⟨S, sn, sc, B, bn, bc, rfl, hS, hI, hb8⟩
          have HB8 := Lib.hid (HBW.out.trans (hb8.mono HBW.out.size))
          have HSS := Lib.hid hS
          have HI := Lib.hid hI
          have HW1 := Lib.hid (HW1.out.below hb8)
          have HW2 := Lib.hid (HW2.out.below hb8)
          clear hS hI hb8
          go_wp2_with fail
          refine (Error_nil _ _ (HG0.out.below HB8.out)).mono ?_
          rintro e w9 ⟨rfl, hb9⟩
          have HB9 := Lib.hid (HB8.out.trans (hb9.mono HB8.out.size))
          have HS6 := Lib.hid (HSS.out.below hb9)
          have HI6 := Lib.hid (HI.out.below hb9)
          have HW1 := Lib.hid (HW1.out.below hb9)
          have HW2 := Lib.hid (HW2.out.below hb9)
          clear hb9
          go_wp2_with fail
          refine (same_Spans S (some ⟨g1, 0, none⟩) sn sc m1 m1 out w9 HS6.out HW1.out).mono ?_
          rintro e wd ⟨rfl, hbd⟩
          have HBD := Lib.hid (HB9.out.trans (hbd.mono HB9.out.size))
          have HI7 := Lib.hid (HI6.out.below hbd)
          have HW2 := Lib.hid (HW2.out.below hbd)
          clear hbd
          go_wp2_with fail
          refine (same_Bools B (some ⟨g2, 0, none⟩) bn bc m1 m1 inn wd HI7.out HW2.out).mono ?_
          rintro e we ⟨rfl, hbe⟩
          have HBE := Lib.hid (HBD.out.trans (hbe.mono HBD.out.size))
          clear hbe
          go_wp2_with fail
          go_ret
          exact ⟨rfl, HBE.out⟩
  · have CS := Lib.hid (fun w' (hb : Below w.heap.size w w') => tree_Spans_no a0 a1 n1 c1 z1 a2 w' (HZ.out.below hb) ht)
    have hp : parD a0 z1 a2 = [] := by unfold parD; rw [if_neg ht]
    rw [hp] at CP
    have he := treeC_e a0 z1 a2
    obtain ⟨T, eT⟩ : ∃ T, treeC a0 z1 a2 = T := ⟨_, rfl⟩
    obtain ⟨E, eE⟩ : ∃ E, edgesC a0 z1 = E := ⟨_, rfl⟩
    rw [eT] at CP CS ht he
    rw [eE] at CE he
    have htt : (T == 0) = false := by simpa using ht
    have htn : (T != 0) = true := by simpa using ht
    have HT := Lib.hid ht
    have cases3 : (E = 0 ∧ a2 < 0 ∧ T = 1) ∨ (E = 0 ∧ ¬ a2 < 0 ∧ a0 ≤ a2 ∧ T = 1) ∨ (E ≠ 0 ∧ T = E) := by
      by_cases q : E = 0
      · rw [if_pos q] at he
        by_cases q2 : 0 ≤ a2 ∧ a2 < a0
        · rw [if_pos q2] at he; exact absurd he ht
        · rw [if_neg q2] at he
          by_cases q3 : a2 < 0
          · exact .inl ⟨q, q3, he⟩
          · exact .inr (.inl ⟨q, q3, by omega, he⟩)
      · rw [if_neg q] at he
        exact .inr (.inr ⟨q, he⟩)
    clear ht he hp eT eE htt htn
    rcases cases3 with ⟨rfl, q1, rfl⟩ | ⟨rfl, q1, q2, rfl⟩ | ⟨q0, q9⟩
    · (skip)
      go_enter Tryd.func4, Tryd.ntmps4
      go_wp2_with fail
      refine (CE.out w (Below.refl _ _)).mono ?_
      rintro e w1 ⟨rfl, hb1⟩
      have HB1 := Lib.hid hb1
      clear hb1
      go_wp2_with fail
      refine (CP.out _ HB1.out).mono ?_
      rintro e w2 ⟨P, pn, pc, rfl, hP, hb2⟩
      have HB2 := Lib.hid (HB1.out.trans (hb2.mono HB1.out.size))
      have HP := Lib.hid hP
      clear hP hb2
      go_wp2_with fail
      refine (Error_n 1 _ (by omega) _ (HG.out.below HB2.out)).mono ?_
      rintro e w3 ⟨rfl, hb3⟩
      have HB3 := Lib.hid (HB2.out.trans (hb3.mono HB2.out.size))
      have HP3 := Lib.hid (HP.out.below hb3)
      clear hb3
      go_wp2_with fail
      refine (same_Ints P none pn pc 0 0 [] w3 HP3.out (ints_nil _)).mono ?_
      rintro e w4 ⟨rfl, hb4⟩
      have HB4 := Lib.hid (HB3.out.trans (hb4.mono HB3.out.size))
      clear hb4
      go_wp2_with fail
      refine wp_loop_rounds 1 ?_
      rw [rounds_succ]
      go_wp2_with fail
      refine (CS.out _ HB4.out).mono ?_
      rintro e w5 ⟨S, sn, sc, B, bn, bc, rfl, hS, hI, hb5⟩
      have HB5 := Lib.hid (HB4.out.trans (hb5.mono HB4.out.size))
      have HS := Lib.hid hS
      have HI := Lib.hid hI
      clear hS hI hb5
      go_wp2_with fail
      refine (Error_n 1 _ (by omega) _ (HG.out.below HB5.out)).mono ?_
      rintro e w6 ⟨rfl, hb6⟩
      have HB6 := Lib.hid (HB5.out.trans (hb6.mono HB5.out.size))
      have HS6 := Lib.hid (HS.out.below hb6)
      have HI6 := Lib.hid (HI.out.below hb6)
      clear hb6
      go_wp2_with fail
      refine (same_Spans S none sn sc 0 0 [] w6 HS6.out (recs_nil _ _ _ _)).mono ?_
      rintro e w7 ⟨rfl, hb7⟩
      have HB7 := Lib.hid (HB6.out.trans (hb7.mono HB6.out.size))
      have HI7 := Lib.hid (HI6.out.below hb7)
      clear hb7
      go_wp2_with fail
      refine (same_Bools B none bn bc 0 0 [] w7 HI7.out (bools_nil _)).mono ?_
      rintro e w8 ⟨rfl, hb8⟩
      have HB8 := Lib.hid (HB7.out.trans (hb8.mono HB7.out.size))
      clear hb8
      go_wp2_with fail
      go_ret
      exact ⟨rfl, HB8.out⟩
    · (skip)
      go_enter Tryd.func4, Tryd.ntmps4
      go_wp2_with fail
      refine (CE.out w (Below.refl _ _)).mono ?_
      rintro e w1 ⟨rfl, hb1⟩
      have HB1 := Lib.hid hb1
      clear hb1
      go_wp2_with fail
      refine (CP.out _ HB1.out).mono ?_
      rintro e w2 ⟨P, pn, pc, rfl, hP, hb2⟩
      have HB2 := Lib.hid (HB1.out.trans (hb2.mono HB1.out.size))
      have HP := Lib.hid hP
      clear hP hb2
      go_wp2_with fail
      refine (Error_n 1 _ (by omega) _ (HG.out.below HB2.out)).mono ?_
      rintro e w3 ⟨rfl, hb3⟩
      have HB3 := Lib.hid (HB2.out.trans (hb3.mono HB2.out.size))
      have HP3 := Lib.hid (HP.out.below hb3)
      clear hb3
      go_wp2_with fail
      refine (same_Ints P none pn pc 0 0 [] w3 HP3.out (ints_nil _)).mono ?_
      rintro e w4 ⟨rfl, hb4⟩
      have HB4 := Lib.hid (HB3.out.trans (hb4.mono HB3.out.size))
      clear hb4
      go_wp2_with fail
      refine wp_loop_rounds 1 ?_
      rw [rounds_succ]
      go_wp2_with fail
      refine (CS.out _ HB4.out).mono ?_
      rintro e w5 ⟨S, sn, sc, B, bn, bc, rfl, hS, hI, hb5⟩
      have HB5 := Lib.hid (HB4.out.trans (hb5.mono HB4.out.size))
      have HS := Lib.hid hS
      have HI := Lib.hid hI
      clear hS hI hb5
      go_wp2_with fail
      refine (Error_n 1 _ (by omega) _ (HG.out.below HB5.out)).mono ?_
      rintro e w6 ⟨rfl, hb6⟩
      have HB6 := Lib.hid (HB5.out.trans (hb6.mono HB5.out.size))
      have HS6 := Lib.hid (HS.out.below hb6)
      have HI6 := Lib.hid (HI.out.below hb6)
      clear hb6
      go_wp2_with fail
      refine (same_Spans S none sn sc 0 0 [] w6 HS6.out (recs_nil _ _ _ _)).mono ?_
      rintro e w7 ⟨rfl, hb7⟩
      have HB7 := Lib.hid (HB6.out.trans (hb7.mono HB6.out.size))
      have HI7 := Lib.hid (HI6.out.below hb7)
      clear hb7
      go_wp2_with fail
      refine (same_Bools B none bn bc 0 0 [] w7 HI7.out (bools_nil _)).mono ?_
      rintro e w8 ⟨rfl, hb8⟩
      have HB8 := Lib.hid (HB7.out.trans (hb8.mono HB7.out.size))
      clear hb8
      go_wp2_with fail
      go_ret
      exact ⟨rfl, HB8.out⟩
    · subst q9
      have q0' : (T == 0) = false := by simpa using q0
      have q0'' : (T != 0) = true := by simpa using q0
      have Q0 := Lib.hid q0
      clear q0
      go_enter Tryd.func4, Tryd.ntmps4
      go_wp2_with fail
      refine (CE.out w (Below.refl _ _)).mono ?_
      rintro e w1 ⟨rfl, hb1⟩
      have HB1 := Lib.hid hb1
      clear hb1
      go_wp2_with fail
      refine (CP.out _ HB1.out).mono ?_
      rintro e w2 ⟨P, pn, pc, rfl, hP, hb2⟩
      have HB2 := Lib.hid (HB1.out.trans (hb2.mono HB1.out.size))
      have HP := Lib.hid hP
      clear hP hb2
      go_wp2_with fail
      refine (Error_any T T _ (HG.out.below HB2.out)).mono ?_
      rintro e w3 ⟨rfl, hb3⟩
      have HB3 := Lib.hid (HB2.out.trans (hb3.mono HB2.out.size))
      have HP3 := Lib.hid (HP.out.below hb3)
      clear hb3
      go_wp2_with fail
      refine (same_Ints P none pn pc 0 0 [] w3 HP3.out (ints_nil _)).mono ?_
      rintro e w4 ⟨rfl, hb4⟩
      have HB4 := Lib.hid (HB3.out.trans (hb4.mono HB3.out.size))
      clear hb4
      go_wp2_with fail
      refine wp_loop_rounds 1 ?_
      rw [rounds_succ]
      go_wp2_with fail
      refine (CS.out _ HB4.out).mono ?_
      rintro e w5 ⟨S, sn, sc, B, bn, bc, rfl, hS, hI, hb5⟩
      have HB5 := Lib.hid (HB4.out.trans (hb5.mono HB4.out.size))
      have HS := Lib.hid hS
      have HI := Lib.hid hI
      clear hS hI hb5
      go_wp2_with fail
      refine (Error_any T T _ (HG.out.below HB5.out)).mono ?_
      rintro e w6 ⟨rfl, hb6⟩
      have HB6 := Lib.hid (HB5.out.trans (hb6.mono HB5.out.size))
      have HS6 := Lib.hid (HS.out.below hb6)
      have HI6 := Lib.hid (HI.out.below hb6)
      clear hb6
      go_wp2_with fail
      refine (same_Spans S none sn sc 0 0 [] w6 HS6.out (recs_nil _ _ _ _)).mono ?_
      rintro e w7 ⟨rfl, hb7⟩
      have HB7 := Lib.hid (HB6.out.trans (hb7.mono HB6.out.size))
      have HI7 := Lib.hid (HI6.out.below hb7)
      clear hb7
      go_wp2_with fail
      refine (same_Bools B none bn bc 0 0 [] w7 HI7.out (bools_nil _)).mono ?_
      rintro e w8 ⟨rfl, hb8⟩
      have HB8 := Lib.hid (HB7.out.trans (hb8.mono HB7.out.size))
      clear hb8
      go_wp2_with fail
      go_ret
      exact ⟨rfl, HB8.out⟩

set_option maxRecDepth 100000 in
theorem lifted (os : Os) (started : os.Started) (H : Type) (enc : TypeId × Value → H) :
    ReturnsInHanded {} Tryd.checked os 4 .any (fun w args => (Rows.treeTellsSpec.pre enc Tryd.prog Tryd.f4 [] false w args ∧ laidMetH Tryd.prog laidList w) ∧ sizedMet enc Tryd.prog Tryd.f4 (OpenSpec.ofChange Rows.treeTellsSpec) false w args)
      (Rows.treeTellsSpec.post enc Tryd.prog Tryd.f4 false true false false) := by
  refine returnsInHanded_of_change_and (C := Tryd.checked) (X := fun w _ => laidMetH Tryd.prog laidList w) (fun _ _ _ hh h => h.of_heap hh) own started (by kernel_rfl) Tryd.func4
    (ChangeSpec.witness_at (enc := enc) (C := Tryd.checked) (os := os) (X := fun w _ => laidMetH Tryd.prog laidList w) false (laidWorld os) #[.int .i64 0, .slice none 0 0, .int .i64 0] 8 rfl (by kernel_rfl) (by kernel_rfl) (by kernel_rfl) (by kernel_rfl) (by kernel_rfl) (laidWorld_met os _)) ?_
  intro W base args ds gs before hval0 hW hcnd hreach hL _
  have hval : ∀ (j : Nat) t v, Tryd.f4.params[j]? = some t → args[j]? = some v → Value.okWide Tryd.prog W .any base t v := hval0
  have hW' := hW
  obtain ⟨p, q, hA0, hV, rfl, hfz, hnd⟩ := hW
  have hA : DataW.TrodAll enc Tryd.prog W 0 (fun _ => true) true Tryd.f4.params.toList args.toList ds p := hA0
  rw [Tryd.params4] at hA hval
  obtain ⟨v0, vs0, d0, ds0, p0, q0, hargs, rfl, rfl, g0, r0⟩ := trodAll_cons hA
  obtain ⟨v1, vs1, d1, ds1, p1, q1, rfl, rfl, rfl, g1, r1⟩ := trodAll_cons r0
  obtain ⟨v2, vs2, d2, ds2, p2, q2, rfl, rfl, rfl, g2, r2⟩ := trodAll_cons r1
  obtain ⟨rfl, rfl, rfl⟩ := trodAll_nil r2
  obtain rfl : args = #[v0, v1, v2] := by cases args; simp_all
  have hV2 : DataW.TrodVars enc Tryd.prog W (fun _ => true) [] gs q := hV
  obtain ⟨rfl, rfl⟩ : gs = [] ∧ q = [] := by
    cases gs with
    | nil => exact ⟨rfl, hV2⟩
    | cons g r => exact absurd hV2 (by intro h; cases h)
  obtain ⟨a0, rfl, rfl, rfl, u0⟩ := open_int Tryd.underlying3 (hval 0 3 v0 rfl rfl) g0
  have h0 := bounds_i64 u0
  have k1 := g1
  have lt1 : ∀ x ∈ p1, x.block < W.heap.size := by obtain ⟨m, hm⟩ := k1; exact DataW.trod_lt m _ _ _ hm
  have rd1 : Tryd.prog.readableRec 22 = true := by kernel_rfl
  have ls1 : 22 < Tryd.prog.types.size := of_decide_eq_true (by kernel_rfl)
  obtain ⟨a1, n1, c1, z1, rfl, h1⟩ := open_REdges (hval 1 22 v1 rfl rfl) g1
  obtain ⟨a2, rfl, rfl, rfl, u2⟩ := open_int Tryd.underlying3 (hval 2 3 v2 rfl rfl) g2
  have h2 := bounds_i64 u2
  clear hA0 hval0
  refine (walk a0 a1 n1 c1 z1 a2 W h0 h1 h2 (handle_of_laid hL)).mono fun e W' ⟨he, bel⟩ => ?_
  subst he
  exact ⟨_, rfl, _, _, _, [], _, [], hW', trodAll_mk1 (shut_bool Tryd.underlying4 _), (trodAll_cons_mk (shut_int Tryd.underlying3 u0) (trodAll_cons_mk (Below.trod laidOut rd1 ls1 k1 bel lt1) (trodAll_cons_mk (shut_int Tryd.underlying3 u2) trodAll_mk0))), rfl, bel.frame _, fun h => by cases h⟩

theorem over : Rows.treeTellsRow.holds Tryd.pinned (OpenSpec.ofChange Rows.treeTellsSpec) :=
  OpenClaim.holds_of_wide 4 Tryd.f4 rfl rfl rfl rfl rfl rfl rfl ⟨rfl, rfl, rfl, rfl, rfl⟩ rfl rfl rfl rfl rfl (by kernel_rfl) Tryd.func4 (by kernel_rfl)
    (of_decide_eq_true (by kernel_rfl)) (by unfold Func.isWrapper; rw [if_neg (of_decide_eq_false (by kernel_rfl))]; exact ⟨rfl, rfl⟩)
    (fun os started H enc _ => lifted os started H enc)

theorem card : Rows.TreeTellsCardSaid :=
  Claim7.holds_tied_plain_at .later [] [.handle] true (true, Rows.treeTellsCard.stood.harness.2) true
    over (fun _ h => by cases h) (by kernel_rfl) (fun _ h => by cases h) treeTells_row_tie rfl ⟨rfl, rfl⟩ (by kernel_rfl) rfl
    (fun f fn hf hfn => by
      obtain rfl : f = 4 := Option.some.inj ((show Tryd.prog.funcNamed "noonmark/noonlaw1.TreeTells" = some 4 by kernel_rfl).symm.trans hf) |>.symm
      obtain rfl : fn = Tryd.f4 := (Option.some.inj (Tryd.func4.symm.trans hfn)).symm
      exact ⟨by kernel_rfl, fun j t ht => by
        rw [Tryd.params4] at ht
        exact noStandIn (ps := #[3, 22, 3]) (by kernel_rfl) ht⟩)
    (by kernel_rfl)

#print axioms card
end Go.Proofs.YtepfbgbdcljlmaaDoor.lTreeTells
