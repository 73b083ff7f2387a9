/- Proved: noonlaw2.NetPlays answers true for every input and leaves its arguments as they were. Its conditions: none beyond the tied card's own. -/
import Derived.Test.YtmficdfihogffaaDoorHK2
import Derived.Test.YtmficdfihogffaaDoorHK5
import Derived.Test.YtmficdfihogffaaDoorHK4
import Derived.Test.YtmficdfihogffaaDoorHK1
import Derived.Deep.DeepCutAuto
import Derived.Deep.CutBlock
import Derived.Deep.Light
namespace Go.Proofs.YtmficdfihogffaaDoor.lNetPlays
open Go.ChangeShapes Go.WideShapes Go.ChangeAt Go.RowKit
set_option linter.unusedVariables false
set_option linter.unusedSimpArgs false
theorem show_no (a : NAd) (ss rs : List Int) (p t : Int) (uv : Value) (us : List RLetter) (K : Nat) (S : Nat → NSt) (i : Int) (w : World) (h : NetAt w a ss rs p t uv us K S) (hi : hasN a.n i = false) :
    Calls Tryd.prog 19 #[.pointer (some ⟨a.N, 0, none⟩), .int .i64 i] w fun e w' => e = .returned (.tuple #[.int .i64 0, .iface 75 (.int .i64 1)]) ∧ Below w.heap.size w w' := by
  have CR := Lib.hid (world_Read_no a.g a.n ss rs t uv i w h.W.at hi)
  have c0 := h.net.cell 0
  simp at c0
  clear h hi
  go_enter Tryd.func19, Tryd.ntmps19
  go_wp2_with fail
  refine CR.out.mono ?_
  rintro e w2 ⟨rfl, hb2⟩
  go_wp2_with fail
  go_ret2
  exact ⟨rfl, hb2⟩
section
variable {w W : World} {a : NAd} {b : SAd} {A1 A2 : Option Addr} {c1 c2 K n : Nat} {ss rs : List Int} {p t : Int} {uv : Value} {us : List RLetter} {S : Nat → NSt}
/-- the bounds of what a net is made of. -/
structure Clk (w : World) (A1 A2 : Option Addr) (c1 c2 n : Nat) (ss rs : List Int) : Prop where
  i1 : IsInts w A1 n c1 ss
  i2 : IsInts w A2 n c2 rs
  n1 : 1 ≤ n
  n6 : n ≤ 6
  sb : ∀ (i : Nat) z, ss[i]? = some z → 0 ≤ z ∧ z ≤ 1000000
  rb : ∀ (i : Nat) z, rs[i]? = some z → -1000 ≤ z ∧ z ≤ 1000
theorem r_off (h : SNetAt w W b A1 A2 c1 c2 p t uv us S) (hn : b.n = n) (q : Clk w A1 A2 c1 c2 n ss rs) (x y : Int) :
    Calls Tryd.prog 11 #[.pointer (some ⟨b.M, 0, none⟩), .int .i64 x, .int .i64 y] W fun e w' => OffRP n (hereAt ss rs t) S x y W w' e := by
  subst hn; exact snet_Offset ss rs h q.i1 q.i2 q.n1 q.n6 q.sb q.rb x y
theorem p_off (h : NetAt W a ss rs p t uv us K S) (hn : a.n = n) (x y : Int) :
    Calls Tryd.prog 12 #[.pointer (some ⟨a.N, 0, none⟩), .int .i64 x, .int .i64 y] W fun e w' => OffP n (hereAt ss rs t) S x y W w' e := by
  subst hn; exact net_Offset a ss rs p t uv us K S x y W h
theorem r_wide (h : SNetAt w W b A1 A2 c1 c2 p t uv us S) (hn : b.n = n) (q : Clk w A1 A2 c1 c2 n ss rs) :
    Calls Tryd.prog 13 #[.pointer (some ⟨b.M, 0, none⟩)] W fun e w' => WideRP n (hereAt ss rs t) S W w' e := by
  subst hn; exact snet_Wide ss rs h q.i1 q.i2 q.n1 q.n6 q.sb q.rb
theorem p_wide (h : NetAt W a ss rs p t uv us K S) (hn : a.n = n) :
    Calls Tryd.prog 14 #[.pointer (some ⟨a.N, 0, none⟩)] W fun e w' => ∃ v c : Int, e = .returned (.tuple #[.int .i64 v, errV c]) ∧ WideA n (hereAt ss rs t) S v c ∧ Below W.heap.size W w' := by
  subst hn; exact net_Wide a ss rs p t uv us K S W h
theorem r_edges (h : SNetAt w W b A1 A2 c1 c2 p t uv us S) (hn : b.n = n) (q : Clk w A1 A2 c1 c2 n ss rs) :
    Calls Tryd.prog 15 #[.pointer (some ⟨b.M, 0, none⟩)] W fun e w' => EdgesToldR W w' e (netE (hereAt ss rs t) S n) (netC (hereAt ss rs t) S n) := by
  subst hn; exact snet_Edges ss rs h q.i1 q.i2 q.n6 q.sb q.rb
theorem p_edges (h : NetAt W a ss rs p t uv us K S) (hn : a.n = n) :
    Calls Tryd.prog 16 #[.pointer (some ⟨a.N, 0, none⟩)] W fun e w' => EdgesTold W w' e (netE (hereAt ss rs t) S n) (netC (hereAt ss rs t) S n) := by
  subst hn; exact net_Edges a ss rs p t uv us K S W h
theorem p_fit (h : NetAt W a ss rs p t uv us K S) (hn : a.n = n) : netC (hereAt ss rs t) S n = 0 → edgesC n (netL (hereAt ss rs t) S n) = 0 := by
  subst hn; exact fun hc => netL_edgesC h.W.n1 h.W.n6 (fun i hi => ⟨(h.sN i hi).1, (h.sN i hi).2.1⟩) hc
theorem p_do {t' : Int} {us' : List RLetter} {S' : Nat → NSt} {A : RAct} {c : Int} (hA : A.ok) (hK : K < 100000) (hn : a.n = n) (ha : NAct n ss rs t us S A c t' us' S') (h : NetAt W a ss rs p t uv us K S) :
    Calls Tryd.prog 9 #[.pointer (some ⟨a.N, 0, none⟩), .agg #[.int .i64 A.what, .int .i64 A.a, .int .i64 A.b]] W (NetDone W a ss rs p uv c t' us' (K + 1) S') := by
  subst hn; exact net_Do a ss rs p t t' uv us us' K S S' A c W h hA hK ha
theorem r_do {t' : Int} {us' : List RLetter} {S' : Nat → NSt} {A : RAct} {c : Int} (hA : A.ok) (hn : b.n = n) (ha : NAct n ss rs t us S A c t' us' S') (q : Clk w A1 A2 c1 c2 n ss rs) (h : SNetAt w W b A1 A2 c1 c2 p t uv us S) :
    Calls Tryd.prog 10 #[.pointer (some ⟨b.M, 0, none⟩), .agg #[.int .i64 A.what, .int .i64 A.a, .int .i64 A.b]] W (SNetDone w W b A1 A2 c1 c2 p uv c t' us' S') := by
  subst hn; exact snet_Do ss rs A c h q.i1 q.i2 hA q.n6 q.sb q.rb ha
theorem r_read (h : SNetAt w W b A1 A2 c1 c2 p t uv us S) (hn : b.n = n) (q : Clk w A1 A2 c1 c2 n ss rs) {i : Nat} {s r : Int} (hs : ss[i]? = some s) (hr : rs[i]? = some r) :
    Calls Tryd.prog 18 #[.pointer (some ⟨b.M, 0, none⟩), .int .i64 i] W fun e w' => e = .returned (.int .i64 (hereAt ss rs t i)) ∧ Below W.heap.size W w' := by
  subst hn
  have := r2_WRead w b.M b.B b.n A1 A2 c1 c2 ss rs t uv us i s r W h.W q.i1 q.i2 hs hr (q.sb i s hs) (q.rb i r hr)
  rw [← hereAt_eq hs hr] at this
  exact this
end
set_option maxRecDepth 100000 in
set_option maxHeartbeats 32000000 in
theorem good (a0 : Option Addr) (n0 c0 : Nat) (z0 : List Int) (a1 : Option Addr) (n1 c1 : Nat) (z1 : List Int) (a2 : Int) (a3 : Option Addr) (n3 c3 : Nat) (z3 : List RAct) (a4 a5 : Int) (w : World)
    (h0 : IsInts w a0 n0 c0 z0) (h1 : IsInts w a1 n1 c1 z1) (h2 : -9223372036854775808 ≤ a2 ∧ a2 ≤ 9223372036854775807) (h3 : IsRecs w RAct.cells RAct.ok 3 a3 n3 c3 z3) (hg : HandleAt w) (e0 : newC z0 z1 a2 = 0) :
    Calls Tryd.prog 3 #[.slice a0 n0 c0, .slice a1 n1 c1, .int .i64 a2, .slice a3 n3 c3, .int .i64 a4, .int .i64 a5] w fun e w' => e = .returned (.bool true) ∧ Below w.heap.size w w' := by
  obtain ⟨r1, r2, r3, r4, r5⟩ := newC_0 e0
  have p1 := (rateB_iff.1 r1).2
  obtain ⟨sb, rb⟩ := clocksB_get r5 r4 p1
  obtain rfl : n1 = n0 := by rw [← h0.1, ← h1.1]; exact r4
  have hn1 : 1 ≤ n1 := by rw [← h0.1]; exact r2
  have hn6 : n1 ≤ 6 := by rw [← h0.1]; exact r3
  have CB := Lib.hid (fun w' (hb : Below w.heap.size w w') => by have := r2_Begin a0 n1 c0 z0 a1 n1 c1 z1 a2 w' (h0.below hb) (h1.below hb) h2; rw [e0] at this; exact this)
  have CN := Lib.hid (fun w' (hb : Below w.heap.size w w') => net_New a0 n1 c0 z0 a1 n1 c1 z1 a2 w' (h0.below hb) (h1.below hb) e0)
  have CM := Lib.hid (fun w' (hb : Below w.heap.size w w') => snet_New a0 n1 c0 z0 a1 n1 c1 z1 a2 w' (h0.below hb) (h1.below hb) e0)
  have CE := Lib.hid (fun c w' (hb : Below w.heap.size w w') => show Calls Tryd.prog 7 #[errV c, .int .i64 c] w' fun e w'' => e = .returned (.bool true) ∧ Below w'.heap.size w' w'' by have := Error_any c c w' (hg.below hb); simpa using this)
  have CE0 := Lib.hid (CE.out 0)
  have HQ := Lib.hid (show Clk w a0 a1 c0 c1 n1 z0 z1 from ⟨h0, h1, hn1, hn6, sb, rb⟩)
  have LS := Lib.hid (show z0.length = n1 from h0.1)
  have LR := Lib.hid (show z1.length = n1 from h1.1)
  have hc0 := h0.2.2.1
  have hc1 := h1.2.2.1
  unfold maxLen at hc0 hc1
  obtain ⟨l1, l2, l3, l4, l5⟩ := h3
  unfold maxLen at l3
  have L1 := Lib.hid l1
  have L4 := Lib.hid l4
  have L5 := Lib.hid l5
  clear h0 h1 h2 hg e0 r1 r2 r3 r4 r5 sb rb l1 l4 l5 p1
  go_enter Tryd.func3, Tryd.ntmps3
  go_wp2_with fail
  refine (CB.out _ (by repeat (first | with_reducible exact Below.refl _ _ | (with_reducible refine Below.alloc ?_ (by first | omega | (simp; done) | (simp; omega)) _) | (with_reducible refine Below.setCell ?_ (by first | omega | (simp; done) | (simp; omega)) _) | (with_reducible refine Below.drew ?_) | (with_reducible refine below_drewN ?_ _) | (with_reducible assumption) | (with_reducible refine bel_step (by with_reducible assumption) ?_ (by first | omega | (simp; done) | (simp; omega)))))).mono ?_
  rintro e w1 ⟨rfl, hb1⟩
  have hz1 := hb1.size
  (try simp at hz1)
  have HB1 : Below w.heap.size w w1 := (by repeat (first | with_reducible exact Below.refl _ _ | (with_reducible refine Below.alloc ?_ (by first | omega | (simp; done) | (simp; omega)) _) | (with_reducible refine Below.setCell ?_ (by first | omega | (simp; done) | (simp; omega)) _) | (with_reducible refine Below.drew ?_) | (with_reducible refine below_drewN ?_ _) | (with_reducible assumption) | (with_reducible refine bel_step (by with_reducible assumption) ?_ (by first | omega | (simp; done) | (simp; omega)))))
  have HZ1 := HB1.size
  clear hb1 hz1
  go_wp2_with fail
  refine (CN.out _ HB1).mono ?_
  rintro e w2 ⟨a, rfl, han, hgw, hN2, hb2⟩
  have HB2 : Below w.heap.size w w2 := HB1.trans (hb2.mono HZ1)
  have HN2 := Lib.hid hN2
  have HAN := Lib.hid han
  have hga := Lib.hid (show w.heap.size ≤ a.g by omega)
  have hz2 := HB2.size
  clear hN2 han hgw hb2 HB1 HZ1 CB CN
  go_wp2_with fail
  refine (CE0.out _ HB2).mono ?_
  rintro e w3 ⟨rfl, hb3⟩
  have HB3 : Below w.heap.size w w3 := HB2.trans (hb3.mono hz2)
  have HN3 := Lib.hid (HN2.out.below hb3)
  clear hb3 HB2 HN2 hz2
  go_wp2_with fail
  refine (CM.out _ HB3).mono ?_
  rintro e w4 ⟨b, rfl, hbn, hR4, hb4⟩
  have HBN := Lib.hid hbn
  obtain ⟨C, hC⟩ : ∃ C, w3.heap.size = C := ⟨_, rfl⟩
  have HB4 := Lib.hid (show BothN w w4 a b C a0 a1 c0 c1 z0 z1 a2 0 0 (.slice none 0 0) (.slice none 0 0) [] [] 0 (fun i => NSt.start n1 i a2) (fun i => NSt.start n1 i a2) by rw [← hC]; exact BothN.start HN3.out hga.out hR4 HB3 hb4)
  clear hbn hR4 hb4 HB3 HN3 hC CM hga
  go_upto_block 0 with fail
  go_cut [18] (fun _ wx => ∃ (K : Nat) (t : Int) (uv uv2 : Value) (us : List RLetter) (S : Nat → NSt), BothN w wx a b C a0 a1 c0 c1 z0 z1 a2 t t uv uv2 us us K S S)
  case first =>
    go_wp2_with fail
    go_loopw [18] (fun iv wr => ∃ (k : Nat) (t : Int) (uv uv2 : Value) (us : List RLetter) (S : Nat → NSt), iv = .int .i64 k ∧ k ≤ n3 ∧ k ≤ 60 ∧ BothN w wr a b C a0 a1 c0 c1 z0 z1 a2 t t uv uv2 us us k S S) (fun iv _ => n3 - (intOf iv).toNat)
    case atStart => exact ⟨0, 0, _, _, [], _, rfl, by omega, by omega, HB4.out⟩
    case round =>
      obtain ⟨k, t, uv, uv2, us, S, rfl, hk, hk60, hB⟩ := hrel
      have HBr := Lib.hid hB
      clear hB HB4
      by_cases d1 : k < n3
      · by_cases d2 : k < 60
        · obtain ⟨z, hz⟩ : ∃ z, z3[k]? = some z := ⟨_, List.getElem?_eq_getElem (by rw [L1.out]; omega)⟩
          obtain ⟨b3, off3, rfl, hb3, hc3⟩ := L5.out (by omega)
          have HX := Lib.hid (fun wr' (hb : Below w.heap.size w wr') => show wr'.cell? ⟨b3, off3 + k * 3, none⟩ = some (.int .i64 z.what) ∧ wr'.cell? ⟨b3, off3 + k * 3 + 1, none⟩ = some (.int .i64 z.a) ∧ wr'.cell? ⟨b3, off3 + k * 3 + 2, none⟩ = some (.int .i64 z.b) from
            ⟨(hb.cell (p := ⟨b3, off3 + k * 3, none⟩) hb3).trans (hc3 k z hz 0 _ rfl), (hb.cell (p := ⟨b3, off3 + k * 3 + 1, none⟩) hb3).trans (hc3 k z hz 1 _ rfl), (hb.cell (p := ⟨b3, off3 + k * 3 + 2, none⟩) hb3).trans (hc3 k z hz 2 _ rfl)⟩)
          obtain ⟨c, t', us', S', hna⟩ := nact_total n1 z0 z1 t us S z LS.out LR.out (by have := HBr.out.N.has; rw [HAN.out] at this; exact this)
          have hzok := L4.out z (List.mem_of_getElem? hz)
          have CD := Lib.hid (fun (W : World) (h : NetAt W a z0 z1 a2 t uv us k S) => p_do hzok (show k < 100000 by omega) HAN.out hna h)
          have CS := Lib.hid (fun (W : World) (h : SNetAt w W b a0 a1 c0 c1 a2 t uv2 us S) => r_do hzok HBN.out hna HQ.out h)
          have CEc := Lib.hid (CE.out c)
          have q0 : (0 : Int) ≤ (k : Int) := by omega
          have q1 : (k : Int) < (n3 : Int) := by omega
          have q2 : (k : Int) < 60 := by omega
          clear hc3 hz hna hzok
          go_wp2_with fail
          refine wp_region_held_drew (S := fun w9 => w9.cell? ⟨b3, off3 + k * 3, none⟩ = some (.int .i64 z.what) ∧ w9.cell? ⟨b3, off3 + k * 3 + 1, none⟩ = some (.int .i64 z.a) ∧ w9.cell? ⟨b3, off3 + k * 3 + 2, none⟩ = some (.int .i64 z.b)) (by kernel_rfl) (HX.out wr.drew (HBr.out.R.W.old).drew) (fun hHeld => ?_)
          refine take_d (i := 0) (v := (.pointer (some ⟨a.N, 0, none⟩))) (d := some 69) rfl (by kernel_rfl) (by kernel_rfl) (by kernel_rfl) (by kernel_rfl) (fun _ _ _ h => h) (Or.inl ⟨by kernel_rfl, fun w9 hw9 => by (go_simp)⟩) hHeld ?_
          try simp only [Act.put, List.setIfInBounds_toArray, List.set_cons_zero, List.set_cons_succ]
          refine take_d (i := 1) (v := (.slice (some ⟨b3, off3, none⟩) n3 c3)) (d := some 70) rfl (by kernel_rfl) (by kernel_rfl) (by kernel_rfl) (by kernel_rfl) (fun _ _ _ h => h) (Or.inl ⟨by kernel_rfl, fun w9 hw9 => by (go_simp)⟩) hHeld ?_
          try simp only [Act.put, List.setIfInBounds_toArray, List.set_cons_zero, List.set_cons_succ]
          refine take_d (i := 2) (v := (.int .i64 k)) (d := some 71) rfl (by kernel_rfl) (by kernel_rfl) (by kernel_rfl) (by kernel_rfl) (fun _ _ _ h => h) (Or.inl ⟨by kernel_rfl, fun w9 hw9 => by (go_simp)⟩) hHeld ?_
          try simp only [Act.put, List.setIfInBounds_toArray, List.set_cons_zero, List.set_cons_succ]
          refine take_d (i := 3) (v := (.pointer (some ⟨b3, off3 + k * 3, none⟩))) (d := some 72) rfl (by kernel_rfl) (by kernel_rfl) (by kernel_rfl) (by kernel_rfl) (fun _ _ _ h => h) (Or.inl ⟨by kernel_rfl, fun w9 hw9 => by (go_simp)⟩) hHeld ?_
          try simp only [Act.put, List.setIfInBounds_toArray, List.set_cons_zero, List.set_cons_succ]
          refine take_d (i := 4) (v := (.agg #[.int .i64 z.what, .int .i64 z.a, .int .i64 z.b])) (d := some 73) rfl (by kernel_rfl) (by kernel_rfl) (by kernel_rfl) (by kernel_rfl) (fun _ _ _ h => h) (Or.inl ⟨by kernel_rfl, fun w9 hw9 => by (obtain ⟨u0, u1, u2⟩ := hw9; go_simp)⟩) hHeld ?_
          try simp only [Act.put, List.setIfInBounds_toArray, List.set_cons_zero, List.set_cons_succ]
          refine take_d (i := 6) (v := (.pointer (some ⟨b.M, 0, none⟩))) (d := some 75) rfl (by kernel_rfl) (by kernel_rfl) (by kernel_rfl) (by kernel_rfl) (fun _ _ _ h => h) (Or.inl ⟨by kernel_rfl, fun w9 hw9 => by (go_simp)⟩) hHeld ?_
          try simp only [Act.put, List.setIfInBounds_toArray, List.set_cons_zero, List.set_cons_succ]
          refine take_d (i := 7) (v := (.slice (some ⟨b3, off3, none⟩) n3 c3)) (d := some 76) rfl (by kernel_rfl) (by kernel_rfl) (by kernel_rfl) (by kernel_rfl) (fun _ _ _ h => h) (Or.inl ⟨by kernel_rfl, fun w9 hw9 => by (go_simp)⟩) hHeld ?_
          try simp only [Act.put, List.setIfInBounds_toArray, List.set_cons_zero, List.set_cons_succ]
          refine take_d (i := 8) (v := (.int .i64 k)) (d := some 77) rfl (by kernel_rfl) (by kernel_rfl) (by kernel_rfl) (by kernel_rfl) (fun _ _ _ h => h) (Or.inl ⟨by kernel_rfl, fun w9 hw9 => by (go_simp)⟩) hHeld ?_
          try simp only [Act.put, List.setIfInBounds_toArray, List.set_cons_zero, List.set_cons_succ]
          refine take_d (i := 9) (v := (.pointer (some ⟨b3, off3 + k * 3, none⟩))) (d := some 78) rfl (by kernel_rfl) (by kernel_rfl) (by kernel_rfl) (by kernel_rfl) (fun _ _ _ h => h) (Or.inl ⟨by kernel_rfl, fun w9 hw9 => by (go_simp)⟩) hHeld ?_
          try simp only [Act.put, List.setIfInBounds_toArray, List.set_cons_zero, List.set_cons_succ]
          refine take_d (i := 10) (v := (.agg #[.int .i64 z.what, .int .i64 z.a, .int .i64 z.b])) (d := some 79) rfl (by kernel_rfl) (by kernel_rfl) (by kernel_rfl) (by kernel_rfl) (fun _ _ _ h => h) (Or.inl ⟨by kernel_rfl, fun w9 hw9 => by (obtain ⟨u0, u1, u2⟩ := hw9; go_simp)⟩) hHeld ?_
          try simp only [Act.put, List.setIfInBounds_toArray, List.set_cons_zero, List.set_cons_succ]
          try simp only [Act.put, List.setIfInBounds_toArray, List.set_cons_zero, List.set_cons_succ]
          refine wpAnyH_ready (rs := [5]) (by kernel_rfl) (by simp) ?_
          refine AllReadyH.cons rfl (fun K hK => ?_) AllReadyH.nil
          go_simp
          refine (CD.out _ (show NetAt wr.drew a z0 z1 a2 t uv us k S from HBr.out.N.below (by exact (by repeat (first | with_reducible exact Below.refl _ _ | (with_reducible refine Below.alloc ?_ (by first | omega | (simp; done) | (simp; omega)) _) | (with_reducible refine Below.setCell ?_ (by first | omega | (simp; done) | (simp; omega)) _) | (with_reducible refine Below.drew ?_) | (with_reducible refine below_drewN ?_ _) | (with_reducible assumption) | (with_reducible refine bel_step (by with_reducible assumption) ?_ (by first | omega | (simp; done) | (simp; omega)))))))).mono ?_
          rintro e v1 ⟨rfl, uv', hN1, hK1, hq1⟩
          have HB1 := Lib.hid ((HBr.out.below (w' := wr.drew) (by exact (by repeat (first | with_reducible exact Below.refl _ _ | (with_reducible refine Below.alloc ?_ (by first | omega | (simp; done) | (simp; omega)) _) | (with_reducible refine Below.setCell ?_ (by first | omega | (simp; done) | (simp; omega)) _) | (with_reducible refine Below.drew ?_) | (with_reducible refine below_drewN ?_ _) | (with_reducible assumption) | (with_reducible refine bel_step (by with_reducible assumption) ?_ (by first | omega | (simp; done) | (simp; omega))))))).left hN1 hK1 hq1)
          clear hN1 hK1 hq1
          refine hK.out _ _ (HX.out v1 HB1.out.R.W.old) (fun hHeld2 => ?_)
          clear hK K hHeld
          have hHeld := hHeld2
          try simp only [Act.put, List.setIfInBounds_toArray, List.set_cons_zero, List.set_cons_succ]
          try simp only [Act.put, List.setIfInBounds_toArray, List.set_cons_zero, List.set_cons_succ]
          refine wpAnyH_ready (rs := [11]) (by kernel_rfl) (by simp) ?_
          refine AllReadyH.cons rfl (fun K hK => ?_) AllReadyH.nil
          go_simp
          refine (CS.out v1 HB1.out.R).mono ?_
          rintro e v2 ⟨rfl, uvs, hR2, hK2, hq2⟩
          have HB2 := Lib.hid (HB1.out.right hR2 hK2 hq2)
          clear hR2 hK2 hq2
          refine hK.out _ _ (HX.out v2 HB2.out.R.W.old) (fun hHeld2 => ?_)
          clear hK K hHeld
          have hHeld := hHeld2
          try simp only [Act.put, List.setIfInBounds_toArray, List.set_cons_zero, List.set_cons_succ]
          try simp only [Act.put, List.setIfInBounds_toArray, List.set_cons_zero, List.set_cons_succ]
          refine wpAnyH_ready (rs := [12]) (by kernel_rfl) (by simp) ?_
          refine AllReadyH.cons rfl (fun K hK => ?_) AllReadyH.nil
          go_simp
          refine (CEc.out v2 HB2.out.R.W.old).mono ?_
          rintro e v3 ⟨rfl, hb3'⟩
          have HB3 := Lib.hid (HB2.out.below hb3')
          clear hb3'
          refine hK.out _ _ (HX.out v3 HB3.out.R.W.old) (fun hHeld2 => ?_)
          clear hK K hHeld
          have hHeld := hHeld2
          try simp only [Act.put, List.setIfInBounds_toArray, List.set_cons_zero, List.set_cons_succ]
          refine take_d (i := 13) (v := (.bool true)) (d := some 16) rfl (by kernel_rfl) (by kernel_rfl) (by kernel_rfl) (by kernel_rfl) (fun _ _ _ h => h) (Or.inl ⟨by kernel_rfl, fun w9 hw9 => by (go_simp)⟩) hHeld ?_
          try simp only [Act.put, List.setIfInBounds_toArray, List.set_cons_zero, List.set_cons_succ]
          refine wpAnyH_done (by kernel_rfl) ?_ _
          try simp only [Act.put, List.setIfInBounds_toArray, List.set_cons_zero, List.set_cons_succ]
          clear CD CS CEc HBr HB1 HB2 HX hHeld
          have HE0 := Lib.hid (p_fit HB3.out.N HAN.out)
          go_wp2_with fail
          refine (r_off HB3.out.R HBN.out HQ.out a4 a5).mono ?_
          rintro e v4 ⟨x, d, rfl, hS4, hb4⟩
          have HB4 := Lib.hid (HB3.out.below hb4)
          have HS4 := Lib.hid hS4
          clear hb4 hS4 HB3
          go_wp2_with fail
          refine (p_off (HB4.out.N.below (by exact (by repeat (first | with_reducible exact Below.refl _ _ | (with_reducible refine Below.alloc ?_ (by first | omega | (simp; done) | (simp; omega)) _) | (with_reducible refine Below.setCell ?_ (by first | omega | (simp; done) | (simp; omega)) _) | (with_reducible refine Below.drew ?_) | (with_reducible refine below_drewN ?_ _) | (with_reducible assumption) | (with_reducible refine bel_step (by with_reducible assumption) ?_ (by first | omega | (simp; done) | (simp; omega))))))) HAN.out a4 a5).mono ?_
          rintro e v5 ⟨x', d', rfl, hS5, hb5⟩
          obtain ⟨rfl, rfl⟩ := off_same HE0.out hS5 HS4.out
          have hb45 := ((Below.refl v4.heap.size v4).alloc (Nat.le_refl _) (.cells #[.int .i64 x'.lo, .int .i64 x'.hi] 38)).trans (hb5.mono (by simp))
          have HB5 := Lib.hid (HB4.out.below hb45)
          have K5 := Lib.hid ((Blk.new v4 38 #[.int .i64 x'.lo, .int .i64 x'.hi]).below hb5 (by simp))
          have hz5 := HB5.out.R.W.old.size
          clear hb5 hb45 hS5 HS4 HB4 HE0
          go_wp2_with fail
          refine (CE.out d' _ (HB5.out.R.W.old.alloc hz5 _)).mono ?_
          rintro e v6 ⟨rfl, hb6⟩
          have hb56 := ((Below.refl v5.heap.size v5).alloc (Nat.le_refl _) (.cells #[.int .i64 x'.lo, .int .i64 x'.hi] 38)).trans (hb6.mono (by simp))
          have HB6 := Lib.hid (HB5.out.below hb56)
          have K6 := Lib.hid (K5.out.below hb56 K5.out.lt)
          have J6 := Lib.hid ((Blk.new v5 38 #[.int .i64 x'.lo, .int .i64 x'.hi]).below hb6 (by simp))
          have y0 := K6.out.cell 0
          have y1 := K6.out.cell 1
          have y2 := J6.out.cell 0
          have y3 := J6.out.cell 1
          simp at y0 y1 y2 y3
          have l4 := K6.out.lt
          have l5' := J6.out.lt
          clear hb6 hb56 HB5 K5 K6 J6
          go_wp2_with fail
          refine (r_wide (HB6.out.below (by exact (by repeat (first | with_reducible exact Below.refl _ _ | (with_reducible refine Below.alloc ?_ (by first | omega | (simp; done) | (simp; omega)) _) | (with_reducible refine Below.setCell ?_ (by first | omega | (simp; done) | (simp; omega)) _) | (with_reducible refine Below.drew ?_) | (with_reducible refine below_drewN ?_ _) | (with_reducible assumption) | (with_reducible refine bel_step (by with_reducible assumption) ?_ (by first | omega | (simp; done) | (simp; omega))))))).R HBN.out HQ.out).mono ?_
          rintro e v7 ⟨vw, cw, rfl, hS7, hb7⟩
          have HS7 := Lib.hid hS7
          have HB7 := Lib.hid (HB6.out.below (show Below v6.heap.size v6 v7 from (by repeat (first | with_reducible exact Below.refl _ _ | (with_reducible refine Below.alloc ?_ (by first | omega | (simp; done) | (simp; omega)) _) | (with_reducible refine Below.setCell ?_ (by first | omega | (simp; done) | (simp; omega)) _) | (with_reducible refine Below.drew ?_) | (with_reducible refine below_drewN ?_ _) | (with_reducible assumption) | (with_reducible refine bel_step (by with_reducible assumption) ?_ (by first | omega | (simp; done) | (simp; omega)))))))
          clear hS7 hb7 HB6 y0 y1 y2 y3 l4 l5'
          go_wp2_with fail
          refine (p_wide HB7.out.N HAN.out).mono ?_
          rintro e v8 ⟨vw', cw', rfl, hS8, hb8⟩
          obtain ⟨rfl, rfl⟩ := wide_same hS8 HS7.out
          have HB8 := Lib.hid (HB7.out.below hb8)
          clear hS8 HS7 hb8 HB7
          go_wp2_with fail
          refine (CE.out cw' v8 HB8.out.R.W.old).mono ?_
          rintro e v9 ⟨rfl, hb9⟩
          have HB9 := Lib.hid (HB8.out.below hb9)
          clear hb9 HB8
          go_wp2_with fail
          refine (r_edges (HB9.out.below (by exact (by repeat (first | with_reducible exact Below.refl _ _ | (with_reducible refine Below.alloc ?_ (by first | omega | (simp; done) | (simp; omega)) _) | (with_reducible refine Below.setCell ?_ (by first | omega | (simp; done) | (simp; omega)) _) | (with_reducible refine Below.drew ?_) | (with_reducible refine below_drewN ?_ _) | (with_reducible assumption) | (with_reducible refine bel_step (by with_reducible assumption) ?_ (by first | omega | (simp; done) | (simp; omega))))))).R HBN.out HQ.out).mono ?_
          rintro e v10 ⟨A, m, q, rfl, hI10, hb10⟩
          have HI10 := Lib.hid hI10
          have HB10 := Lib.hid (HB9.out.below (show Below v9.heap.size v9 v10 from (by repeat (first | with_reducible exact Below.refl _ _ | (with_reducible refine Below.alloc ?_ (by first | omega | (simp; done) | (simp; omega)) _) | (with_reducible refine Below.setCell ?_ (by first | omega | (simp; done) | (simp; omega)) _) | (with_reducible refine Below.drew ?_) | (with_reducible refine below_drewN ?_ _) | (with_reducible assumption) | (with_reducible refine bel_step (by with_reducible assumption) ?_ (by first | omega | (simp; done) | (simp; omega)))))))
          clear hI10 hb10 HB9
          go_wp2_with fail
          refine (p_edges HB10.out.N HAN.out).mono ?_
          rintro e v11 ⟨A', m', q', rfl, hI11, hb11⟩
          have HI11 := Lib.hid hI11
          have HJ11 := Lib.hid (HI10.out.below hb11)
          have HB11 := Lib.hid (HB10.out.below hb11)
          clear hI11 hb11 HB10 HI10
          go_wp2_with fail
          refine (CE.out _ v11 HB11.out.R.W.old).mono ?_
          rintro e v12 ⟨rfl, hb12⟩
          have HI12 := Lib.hid (HI11.out.below hb12)
          have HJ12 := Lib.hid (HJ11.out.below hb12)
          have HB12 := Lib.hid (HB11.out.below hb12)
          clear hb12 HB11 HI11 HJ11
          go_wp2_with fail
          refine (same_Edges _ _ _ _ _ _ _ v12 HI12.out HJ12.out).mono ?_
          rintro e v13 ⟨rfl, hb13⟩
          have HB13 := Lib.hid (HB12.out.below hb13)
          clear hb13 HB12 HI12 HJ12
          go_wp2_with fail
          go_roundw
          case rel => exact ⟨k + 1, t', uv', uvs, us', S', by go_num, by omega, by omega, HB13.out⟩
          case measure => go_light; simp [intOf]; omega
        · obtain rfl : k = 60 := by omega
          go_wp2_with fail
          go_meet
          case rel => exact ⟨_, _, _, _, _, _, HBr.out⟩
      · obtain rfl : k = n3 := by omega
        go_wp2_with fail
        go_meet
        case rel => exact ⟨_, _, _, _, _, _, HBr.out⟩
  case rest =>
  obtain ⟨K, t, uv, uv2, us, S, hB⟩ := hcut
  obtain ⟨w7, hw7⟩ : ∃ x : World, x = wc := ⟨_, rfl⟩
  subst hw7
  have HB7 := Lib.hid hB
  have CE1 := Lib.hid (fun v8 hb => by have := CE.out 1 v8 hb; rw [errV_ne (by decide)] at this; exact this)
  clear hB HB4
  by_cases e1 : a4 < 0 ∨ (n1 : Int) ≤ a4
  · have CW := Lib.hid (show_no a z0 z1 a2 t uv us K S a4 w7 HB7.out.N (by rw [HAN.out]; cases hh : hasN n1 a4; rfl; unfold hasN at hh; simp at hh; omega))
    have e2 : a4 < 0 ∨ (¬ a4 < 0 ∧ (n1 : Int) ≤ a4) := by omega
    clear e1
    rcases e2 with e2 | ⟨e2, e3⟩
    all_goals
      go_wp2_with fail
      refine CW.out.mono ?_
      rintro e w8 ⟨rfl, hb8⟩
      have HB8 := Lib.hid (HB7.out.below hb8)
      clear hb8
      go_wp2_with fail
      refine (CE1.out w8 HB8.out.R.W.old).mono ?_
      rintro e w9 ⟨rfl, hb9⟩
      have HB9 := Lib.hid (HB8.out.below hb9)
      clear hb9
      go_wp2_with fail
      go_ret
      exact ⟨rfl, HB9.out.R.W.old⟩
  · obtain ⟨i, rfl⟩ : ∃ i : Nat, a4 = (i : Int) := ⟨a4.toNat, by omega⟩
    have hin : i < n1 := by omega
    obtain ⟨s, hs⟩ : ∃ z, z0[i]? = some z := ⟨_, List.getElem?_eq_getElem (by rw [LS.out]; exact hin)⟩
    obtain ⟨r, hr⟩ : ∃ z, z1[i]? = some z := ⟨_, List.getElem?_eq_getElem (by rw [LR.out]; exact hin)⟩
    have CM := Lib.hid (r_read HB7.out.R HBN.out HQ.out hs hr)
    have CW := Lib.hid (fun (v8 : World) (hb : Below w7.heap.size w7 v8) => net_Show a z0 z1 a2 t uv us K S i v8 (HB7.out.N.below hb) (by rw [HAN.out]; exact hin))
    have e2 : ¬ (i : Int) < 0 := by omega
    have e3 : ¬ (n1 : Int) ≤ (i : Int) := by omega
    obtain ⟨V, hV⟩ : ∃ V, hereAt z0 z1 t i = V := ⟨_, rfl⟩
    rw [hV] at CM CW
    clear e1 hs hr hV hin
    go_wp2_with fail
    refine CM.out.mono ?_
    rintro e w8 ⟨rfl, hb8⟩
    have HB8 := Lib.hid (HB7.out.below hb8)
    have CW8 := Lib.hid (CW.out w8 hb8)
    clear hb8 CW
    go_wp2_with fail
    refine CW8.out.mono ?_
    rintro e w9 ⟨rfl, hb9⟩
    have HB9 := Lib.hid (HB8.out.below hb9)
    clear hb9
    go_wp2_with fail
    refine (CE0.out w9 HB9.out.R.W.old).mono ?_
    rintro e w10 ⟨rfl, hb10⟩
    have HB10 := Lib.hid (HB9.out.below hb10)
    clear hb10
    go_wp2_with fail
    go_ret
    exact ⟨by simp, HB10.out.R.W.old⟩
set_option maxRecDepth 100000 in
theorem walk (a0 : Option Addr) (n0 c0 : Nat) (z0 : List Int) (a1 : Option Addr) (n1 c1 : Nat) (z1 : List Int) (a2 : Int) (a3 : Option Addr) (n3 c3 : Nat) (z3 : List RAct) (a4 : Int) (a5 : Int) (w : World) (h0 : IsInts w a0 n0 c0 z0) (h1 : IsInts w a1 n1 c1 z1) (h2 : -9223372036854775808 ≤ a2 ∧ a2 ≤ 9223372036854775807) (h3 : IsRecs w RAct.cells RAct.ok 3 a3 n3 c3 z3) (h4 : -9223372036854775808 ≤ a4 ∧ a4 ≤ 9223372036854775807) (h5 : -9223372036854775808 ≤ a5 ∧ a5 ≤ 9223372036854775807) (hg : HandleAt w) :
    Calls Tryd.prog 3 #[.slice a0 n0 c0, .slice a1 n1 c1, .int .i64 a2, .slice a3 n3 c3, .int .i64 a4, .int .i64 a5] w fun e w' => e = .returned (.bool true) ∧ Below w.heap.size w w' := by
  by_cases e0 : newC z0 z1 a2 = 0
  · exact good a0 n0 c0 z0 a1 n1 c1 z1 a2 a3 n3 c3 z3 a4 a5 w h0 h1 h2 h3 hg e0
  · have CB := Lib.hid (fun w' (hb : Below w.heap.size w w') => r2_Begin a0 n0 c0 z0 a1 n1 c1 z1 a2 w' (h0.below hb) (h1.below hb) h2)
    have CN := Lib.hid (fun w' (hb : Below w.heap.size w w') => net_New_no a0 n0 c0 z0 a1 n1 c1 z1 a2 w' (h0.below hb) (h1.below hb) h2 e0)
    obtain ⟨c, hc⟩ : ∃ c, newC z0 z1 a2 = c := ⟨_, rfl⟩
    rw [hc] at CB CN e0
    have CE := Lib.hid (fun w' (hb : Below w.heap.size w w') => show Calls Tryd.prog 7 #[.iface 75 (.int .i64 c), .int .i64 c] w' fun e w'' => e = .returned (.bool true) ∧ Below w'.heap.size w' w'' by have := Error_any c c w' (hg.below hb); rw [errV_ne e0] at this; simpa using this)
    have e1 : (c == 0) = false := by simp; exact e0
    clear hg h0 h1 h2 h3 h4 h5 hc e0
    go_enter Tryd.func3, Tryd.ntmps3
    go_wp2_with fail
    refine (CB.out _ (by repeat (first | with_reducible exact Below.refl _ _ | (with_reducible refine Below.alloc ?_ (by first | omega | (simp; done) | (simp; omega)) _) | (with_reducible refine Below.setCell ?_ (by first | omega | (simp; done) | (simp; omega)) _) | (with_reducible refine Below.drew ?_) | (with_reducible refine below_drewN ?_ _) | (with_reducible assumption) | (with_reducible refine bel_step (by with_reducible assumption) ?_ (by first | omega | (simp; done) | (simp; omega)))))).mono ?_
    rintro e w1 ⟨rfl, hb1⟩
    have hz1 := hb1.size
    (try simp at hz1)
    have HB1 : Below w.heap.size w w1 := (by repeat (first | with_reducible exact Below.refl _ _ | (with_reducible refine Below.alloc ?_ (by first | omega | (simp; done) | (simp; omega)) _) | (with_reducible refine Below.setCell ?_ (by first | omega | (simp; done) | (simp; omega)) _) | (with_reducible refine Below.drew ?_) | (with_reducible refine below_drewN ?_ _) | (with_reducible assumption) | (with_reducible refine bel_step (by with_reducible assumption) ?_ (by first | omega | (simp; done) | (simp; omega)))))
    have HZ1 := HB1.size
    clear hb1 hz1
    go_wp2_with fail
    refine (CN.out _ HB1).mono ?_
    rintro e w2 ⟨rfl, rfl⟩
    go_wp2_with fail
    refine (CE.out _ HB1).mono ?_
    rintro e w3 ⟨rfl, hb3⟩
    have HB3 : Below w.heap.size w w3 := HB1.trans (hb3.mono HZ1)
    go_wp2_with fail
    go_ret
    exact ⟨rfl, HB3⟩

set_option maxRecDepth 100000 in
theorem lifted (os : Os) (started : os.Started) (H : Type) (enc : TypeId × Value → H) :
    ReturnsInHanded {} Tryd.checked os 3 .any (fun w args => (Rows.netPlaysSpec.pre enc Tryd.prog Tryd.f3 [] false w args ∧ laidMetH Tryd.prog laidList w) ∧ sizedMet enc Tryd.prog Tryd.f3 (OpenSpec.ofChange Rows.netPlaysSpec) false w args)
      (Rows.netPlaysSpec.post enc Tryd.prog Tryd.f3 false true false false) := by
  refine returnsInHanded_of_change_and (C := Tryd.checked) (X := fun w _ => laidMetH Tryd.prog laidList w) (fun _ _ _ hh h => h.of_heap hh) own started (by kernel_rfl) Tryd.func3
    (ChangeSpec.witness_at (enc := enc) (C := Tryd.checked) (os := os) (X := fun w _ => laidMetH Tryd.prog laidList w) false (laidWorld os) #[.slice none 0 0, .slice none 0 0, .int .i64 0, .slice none 0 0, .int .i64 0, .int .i64 0] 8 rfl (by kernel_rfl) (by kernel_rfl) (by kernel_rfl) (by kernel_rfl) (by kernel_rfl) (laidWorld_met os _)) ?_
  intro W base args ds gs before hval0 hW hcnd hreach hL _
  have hval : ∀ (j : Nat) t v, Tryd.f3.params[j]? = some t → args[j]? = some v → Value.okWide Tryd.prog W .any base t v := hval0
  have hW' := hW
  obtain ⟨p, q, hA0, hV, rfl, hfz, hnd⟩ := hW
  have hA : DataW.TrodAll enc Tryd.prog W 0 (fun _ => true) true Tryd.f3.params.toList args.toList ds p := hA0
  rw [Tryd.params3] at hA hval
  obtain ⟨v0, vs0, d0, ds0, p0, q0, hargs, rfl, rfl, g0, r0⟩ := trodAll_cons hA
  obtain ⟨v1, vs1, d1, ds1, p1, q1, rfl, rfl, rfl, g1, r1⟩ := trodAll_cons r0
  obtain ⟨v2, vs2, d2, ds2, p2, q2, rfl, rfl, rfl, g2, r2⟩ := trodAll_cons r1
  obtain ⟨v3, vs3, d3, ds3, p3, q3, rfl, rfl, rfl, g3, r3⟩ := trodAll_cons r2
  obtain ⟨v4, vs4, d4, ds4, p4, q4, rfl, rfl, rfl, g4, r4⟩ := trodAll_cons r3
  obtain ⟨v5, vs5, d5, ds5, p5, q5, rfl, rfl, rfl, g5, r5⟩ := trodAll_cons r4
  obtain ⟨rfl, rfl, rfl⟩ := trodAll_nil r5
  obtain rfl : args = #[v0, v1, v2, v3, v4, v5] := by cases args; simp_all
  have hV2 : DataW.TrodVars enc Tryd.prog W (fun _ => true) [] gs q := hV
  obtain ⟨rfl, rfl⟩ : gs = [] ∧ q = [] := by
    cases gs with
    | nil => exact ⟨rfl, hV2⟩
    | cons g r => exact absurd hV2 (by intro h; cases h)
  have k0 := g0
  have lt0 : ∀ x ∈ p0, x.block < W.heap.size := by obtain ⟨m, hm⟩ := k0; exact DataW.trod_lt m _ _ _ hm
  have rd0 : Tryd.prog.readableRec 22 = true := by kernel_rfl
  have ls0 : 22 < Tryd.prog.types.size := of_decide_eq_true (by kernel_rfl)
  obtain ⟨a0, n0, c0, z0, rfl, h0⟩ := open_Ints (hval 0 22 v0 rfl rfl) g0
  have k1 := g1
  have lt1 : ∀ x ∈ p1, x.block < W.heap.size := by obtain ⟨m, hm⟩ := k1; exact DataW.trod_lt m _ _ _ hm
  have rd1 : Tryd.prog.readableRec 22 = true := by kernel_rfl
  have ls1 : 22 < Tryd.prog.types.size := of_decide_eq_true (by kernel_rfl)
  obtain ⟨a1, n1, c1, z1, rfl, h1⟩ := open_Ints (hval 1 22 v1 rfl rfl) g1
  obtain ⟨a2, rfl, rfl, rfl, u2⟩ := open_int Tryd.underlying3 (hval 2 3 v2 rfl rfl) g2
  have h2 := bounds_i64 u2
  have k3 := g3
  have lt3 : ∀ x ∈ p3, x.block < W.heap.size := by obtain ⟨m, hm⟩ := k3; exact DataW.trod_lt m _ _ _ hm
  have rd3 : Tryd.prog.readableRec 23 = true := by kernel_rfl
  have ls3 : 23 < Tryd.prog.types.size := of_decide_eq_true (by kernel_rfl)
  obtain ⟨a3, n3, c3, z3, rfl, h3⟩ := open_RActs (hval 3 23 v3 rfl rfl) g3
  obtain ⟨a4, rfl, rfl, rfl, u4⟩ := open_int Tryd.underlying3 (hval 4 3 v4 rfl rfl) g4
  have h4 := bounds_i64 u4
  obtain ⟨a5, rfl, rfl, rfl, u5⟩ := open_int Tryd.underlying3 (hval 5 3 v5 rfl rfl) g5
  have h5 := bounds_i64 u5
  clear hA0 hval0
  refine (walk a0 n0 c0 z0 a1 n1 c1 z1 a2 a3 n3 c3 z3 a4 a5 W h0 h1 h2 h3 h4 h5 (handle_of_laid hL)).mono fun e W' ⟨he, bel⟩ => ?_
  subst he
  exact ⟨_, rfl, _, _, _, [], _, [], hW', trodAll_mk1 (shut_bool Tryd.underlying4 _), (trodAll_cons_mk (Below.trod laidOut rd0 ls0 k0 bel lt0) (trodAll_cons_mk (Below.trod laidOut rd1 ls1 k1 bel lt1) (trodAll_cons_mk (shut_int Tryd.underlying3 u2) (trodAll_cons_mk (Below.trod laidOut rd3 ls3 k3 bel lt3) (trodAll_cons_mk (shut_int Tryd.underlying3 u4) (trodAll_cons_mk (shut_int Tryd.underlying3 u5) trodAll_mk0)))))), rfl, bel.frame _, fun h => by cases h⟩

theorem over : Rows.netPlaysRow.holds Tryd.pinned (OpenSpec.ofChange Rows.netPlaysSpec) :=
  OpenClaim.holds_of_wide 3 Tryd.f3 rfl rfl rfl rfl rfl rfl rfl ⟨rfl, rfl, rfl, rfl, rfl⟩ rfl rfl rfl rfl rfl (by kernel_rfl) Tryd.func3 (by kernel_rfl)
    (of_decide_eq_true (by kernel_rfl)) (by unfold Func.isWrapper; rw [if_neg (of_decide_eq_false (by kernel_rfl))]; exact ⟨rfl, rfl⟩)
    (fun os started H enc _ => lifted os started H enc)

theorem card : Rows.NetPlaysCardSaid :=
  Claim7.holds_tied_plain_at .later [] [.handle] true (true, Rows.netPlaysCard.stood.harness.2) true
    over (fun _ h => by cases h) (by kernel_rfl) (fun _ h => by cases h) netPlays_row_tie rfl ⟨rfl, rfl⟩ (by kernel_rfl) rfl
    (fun f fn hf hfn => by
      obtain rfl : f = 3 := Option.some.inj ((show Tryd.prog.funcNamed "noonmark/noonlaw2.NetPlays" = some 3 by kernel_rfl).symm.trans hf) |>.symm
      obtain rfl : fn = Tryd.f3 := (Option.some.inj (Tryd.func3.symm.trans hfn)).symm
      exact ⟨by kernel_rfl, fun j t ht => by
        rw [Tryd.params3] at ht
        exact noStandIn (ps := #[22, 22, 3, 23, 3, 3]) (by kernel_rfl) ht⟩)
    (by kernel_rfl)
end Go.Proofs.YtmficdfihogffaaDoor.lNetPlays
