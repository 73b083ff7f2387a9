/- Package world, walked. -/
import Derived.Test.YtldlandcjegikaaGreatDoorHK1
namespace Go.Proofs.YtldlandcjegikaaGreatDoor
open Go.RowKit
set_option linter.unusedVariables false
set_option linter.unusedSimpArgs false
structure WorldAt (w : World) (g : Nat) (n : Nat) (ss rs : List Int) (t : Int) (uv : Value) : Prop where
 ex : ∃ gs cs gr cr, Blk w g 134 #[.slice (some ⟨gs, 0, none⟩) n cs, .slice (some ⟨gr, 0, none⟩) n cr, .int .i64 t, uv] ∧ gs ≠ g ∧ gr ≠ g ∧ gs < w.heap.size ∧ gr < w.heap.size ∧
  n ≤ cs ∧ n ≤ cr ∧ cs ≤ maxLen ∧ cr ≤ maxLen ∧ (∀ (i : Nat) z, ss[i]? = some z → w.cell? ⟨gs, i, none⟩ = some (.int .i64 z)) ∧ (∀ (i : Nat) z, rs[i]? = some z → w.cell? ⟨gr, i, none⟩ = some (.int .i64 z))
 ls : ss.length = n
 lr : rs.length = n
 sb : ∀ (i : Nat) z, ss[i]? = some z → 0 ≤ z ∧ z ≤ 1000000
 rb : ∀ (i : Nat) z, rs[i]? = some z → -1000 ≤ z ∧ z ≤ 1000
 t0 : 0 ≤ t
 t1 : t ≤ 1000000000
 n1 : 1 ≤ n
 n6 : n ≤ 6
theorem WorldAt.lt {w : World} {g n : Nat} {ss rs : List Int} {t : Int} {uv : Value} (h : WorldAt w g n ss rs t uv) : g < w.heap.size := by
 obtain ⟨gs, cs, gr, cr, hb, _⟩ := h.ex
 exact hb.lt
theorem WorldAt.touched {w w' : World} {g n : Nat} {ss rs : List Int} {t t' : Int} {uv uv' : Value} (h : WorldAt w g n ss rs t uv) (ht : Touched g w w') (h0 : 0 ≤ t') (h1 : t' ≤ 1000000000)
  (hb : ∀ a b, Blk w g 134 #[a, b, .int .i64 t, uv] → Blk w' g 134 #[a, b, .int .i64 t', uv']) : WorldAt w' g n ss rs t' uv' := by
 obtain ⟨⟨gs, cs, gr, cr, k1, k2, k3, k4, k5, k6, k7, k8, k9, k10, k11⟩, ls, lr, sb, rb, t0, t1, n1, n6⟩ := h
 have hz := ht.size
 exact ⟨⟨gs, cs, gr, cr, hb _ _ k1, k2, k3, by omega, by omega, k6, k7, k8, k9, fun i z hz => (ht.cell k4 k2 i).trans (k10 i z hz), fun i z hz => (ht.cell k5 k3 i).trans (k11 i z hz)⟩, ls, lr, sb, rb, h0, h1, n1, n6⟩
theorem WorldAt.below {w w' : World} {g n : Nat} {ss rs : List Int} {t : Int} {uv : Value} (h : WorldAt w g n ss rs t uv) (hb : Below w.heap.size w w') : WorldAt w' g n ss rs t uv :=
 h.touched (Touched.of_below hb) h.t0 h.t1 (fun _ _ k => k.below hb k.lt)
theorem world_down (n : Int) (w : World) (h0 : -1000000000000 ≤ n) (h1 : n ≤ 1000000000000) : Calls Tryz.prog 158 #[.int .i64 n] w fun e w' => e = .returned (.int .i64 (n / 1000000)) ∧ w = w' := by
 have hd := Lib.hid (down_eq n)
 have t1 : -1000000 ≤ Int.tdiv n 1000000 := by
  have := Int.mul_tdiv_add_tmod n 1000000; have := Int.tmod_lt_of_pos n (show (0:Int) < 1000000 by omega); have h9 := Int.tmod_lt_of_pos (-n) (show (0:Int) < 1000000 by omega); rw [Int.neg_tmod] at h9; omega
 have t2 : Int.tdiv n 1000000 ≤ 1000000 := by
  have := Int.mul_tdiv_add_tmod n 1000000; have := Int.tmod_lt_of_pos n (show (0:Int) < 1000000 by omega); have h9 := Int.tmod_lt_of_pos (-n) (show (0:Int) < 1000000 by omega); rw [Int.neg_tmod] at h9; omega
 go_enter Tryz.func158, Tryz.ntmps158
 go_wp2_with fail
 all_goals
  go_ret
  exact ⟨ret_int (by rw [← hd.out]; first | (rw [if_pos (by assumption)]; done) | (rw [if_neg (by omega)]; done)), rfl⟩
theorem world_has (g n : Nat) (ss rs : List Int) (t : Int) (uv : Value) (i : Int) (w : World) (h : WorldAt w g n ss rs t uv) : Calls Tryz.prog 129 #[.pointer (some ⟨g, 0, none⟩), .int .i64 i] w fun e w' => e = .returned (.bool (hasN n i)) ∧ Below w.heap.size w w' := by
 obtain ⟨⟨gs, cs, gr, cr, k1, k2, k3, k4, k5, k6, k7, k8, k9, k10, k11⟩, ls, lr, sb, rb, t0, t1, n1, n6⟩ := h
 have c0 := k1.cell 0
 simp at c0
 clear k1 k10 k11 sb rb ls lr
 by_cases g1 : 0 ≤ i
 ·have hv := Lib.hid (show hasN n i = decide (i < n) by unfold hasN; simp [g1])
  go_enter Tryz.func129, Tryz.ntmps129
  go_wp2_with fail
  go_ret
  exact ⟨by rw [hv.out]; rfl, BeL⟩
 ·have hv := Lib.hid (show hasN n i = false by unfold hasN; simp [g1])
  go_enter Tryz.func129, Tryz.ntmps129
  go_wp2_with fail
  go_ret
  exact ⟨by rw [hv.out]; rfl, BeL⟩
set_option maxRecDepth 100000 in
set_option maxHeartbeats 1000000 in
theorem world_read (g n : Nat) (ss rs : List Int) (t : Int) (uv : Value) (i : Nat) (s r : Int) (w : World) (h : WorldAt w g n ss rs t uv) (hs : ss[i]? = some s) (hr : rs[i]? = some r) : Calls Tryz.prog 130 #[.pointer (some ⟨g, 0, none⟩), .int .i64 i] w fun e w' => e = .returned (.int .i64 (readV s r t)) ∧ Below w.heap.size w w' := by
 have t0 := h.t0
 have t1 := h.t1
 have ls := h.ls
 have n6 := h.n6
 obtain ⟨s0, s1⟩ := h.sb i s hs
 obtain ⟨r0, r1⟩ := h.rb i r hr
 have hin : i < n := by rw [← ls]; exact (List.getElem?_eq_some_iff.1 hs).1
 obtain ⟨⟨gs, cs, gr, cr, k1, k2, k3, k4, k5, k6, k7, k8, k9, k10, k11⟩, _⟩ := h
 have x0 := k10 i s hs
 have x1 := k11 i r hr
 have c0 := k1.cell 0
 have c1 := k1.cell 1
 have c2 := k1.cell 2
 simp at c0 c1 c2
 have b1 := mul_bd2 t0 t1 r0 r1
 have C1 := Lib.hid (fun w => world_down (t * r) w b1.1 b1.2)
 have hv := Lib.hid (show s + t + t * r / 1000000 = readV s r t from rfl)
 obtain ⟨q, eq⟩ : ∃ q, t * r / 1000000 = q := ⟨_, rfl⟩
 have q0 : -1000000 ≤ q ∧ q ≤ 1000000 := by rw [← eq]; omega
 obtain ⟨q0, q1⟩ := q0
 rw [eq] at C1 hv
 obtain ⟨b0, b2⟩ := b1
 have u1 : (i : Int) < (n : Int) := by omega
 have u2 : (0 : Int) ≤ (i : Int) := by omega
 have u3 := IntWalk.i64_in (s + t) (by omega)
 have u4 := IntWalk.i64_in (t * r) (by omega)
 have u5 := IntWalk.i64_in (s + t + q) (by omega)
 clear k1 k2 k3 k10 k11 hs hr ls eq
 go_enter Tryz.func130, Tryz.ntmps130
 go_wp2_with fail
 go_quiet ((go_at_call 158; exact quiet_left (C1.out _)))
 go_wp2_with fail
 go_ret
 exact ⟨ret_int hv.out, BeL⟩
theorem hasN_nat {n i : Nat} (h : i < n) : hasN n (i : Int) = true := by unfold hasN; simp; omega
theorem world_Read (g n : Nat) (ss rs : List Int) (t : Int) (uv : Value) (i : Nat) (s r : Int) (w : World) (h : WorldAt w g n ss rs t uv) (hs : ss[i]? = some s) (hr : rs[i]? = some r) : Calls Tryz.prog 94 #[.pointer (some ⟨g, 0, none⟩), .int .i64 i] w fun e w' => e = .returned (.tuple #[.int .i64 (readV s r t), .nilIface]) ∧ Below w.heap.size w w' := by
 have hin : i < n := by rw [← h.ls]; exact (List.getElem?_eq_some_iff.1 hs).1
 have C0 := fun w h => world_has g n ss rs t uv i w h
 rw [hasN_nat hin] at C0
 have C0 := Lib.hid C0
 have C1 := Lib.hid (fun w h => world_read g n ss rs t uv i s r w h hs hr)
 have HW := Lib.hid h
 have hlt := h.lt
 clear h hs hr
 go_enter Tryz.func94, Tryz.ntmps94
 go_wp2_with fail
 (try (go_at_call 129; refine (C0.out _ HW.out).mono ?_; rintro e w1 ⟨rfl, hb1⟩; obtain ⟨hc1, hf1⟩ := bcell hb1; have hz1 := hb1.size; (try simp at hz1); (try have := q00_ w w1); (try have := q02_ w w1); (try have := q03_ w w1); (try have := q10_ w w1); (try have := q12_ w w1); (try have := q13_ w w1); (try have := q20_ w w1); (try have := q22_ w w1); (try have := q23_ w w1); (try have := q30_ w w1); (try have := q32_ w w1); (try have := q33_ w w1); (try go_wp2_with fail)))
 (try (go_at_call 130; refine (C1.out _ (HW.out.below BeL)).mono ?_; rintro e w2 ⟨rfl, hb2⟩; obtain ⟨hc2, hf2⟩ := bcell hb2; have hz2 := hb2.size; (try simp at hz2); (try have := q00_ w w2); (try have := q02_ w w2); (try have := q03_ w w2); (try have := q10_ w w2); (try have := q12_ w w2); (try have := q13_ w w2); (try have := q20_ w w2); (try have := q22_ w w2); (try have := q23_ w w2); (try have := q30_ w w2); (try have := q32_ w w2); (try have := q33_ w w2); (try have := q00_ w1 w2); (try have := q02_ w1 w2); (try have := q10_ w1 w2); (try have := q12_ w1 w2); (try go_wp2_with fail)))
 go_ret2
 exact ⟨rfl, BeL⟩
theorem world_Read_no (g n : Nat) (ss rs : List Int) (t : Int) (uv : Value) (i : Int) (w : World) (h : WorldAt w g n ss rs t uv) (hi : hasN n i = false) : Calls Tryz.prog 94 #[.pointer (some ⟨g, 0, none⟩), .int .i64 i] w fun e w' => e = .returned (.tuple #[.int .i64 0, .iface 88 (.int .i64 1)]) ∧ Below w.heap.size w w' := by
 have C0 := world_has g n ss rs t uv i w h
 rw [hi] at C0
 have C0 := Lib.hid C0
 clear h hi
 go_enter Tryz.func94, Tryz.ntmps94
 go_wp2_with fail
 (try (go_at_call 129; refine (C0.out).mono ?_; rintro e w1 ⟨rfl, hb1⟩; obtain ⟨hc1, hf1⟩ := bcell hb1; have hz1 := hb1.size; (try simp at hz1); (try have := q00_ w w1); (try have := q02_ w w1); (try have := q03_ w w1); (try have := q10_ w w1); (try have := q12_ w w1); (try have := q13_ w w1); (try have := q20_ w w1); (try have := q22_ w w1); (try have := q23_ w w1); (try have := q30_ w w1); (try have := q32_ w w1); (try have := q33_ w w1); (try go_wp2_with fail)))
 go_ret2
 exact ⟨rfl, BeL⟩
theorem infoI64 : (Tryz.prog.info? 3).map (fun i => (i.zero, i.size, i.bytes)) = some (some (.int .i64 0), 1, 8) := by kernel_rfl
def Cloned (w : World) (zs : List Int) (e : Ending) (w' : World) : Prop :=
 ∃ v, e = .returned v ∧ w'.ownsRow w.heap.size 3 1 v zs.length (zs.map (.int .i64 ·)) ∧ (v = .slice none 0 0 → zs = []) ∧ Below w.heap.size w w'
theorem ints_one (zs : List Int) : ∀ u ∈ zs.map (Value.int .i64 ·), u.oneCell' = true := by
 intro u hu
 obtain ⟨z, _, rfl⟩ := List.mem_map.1 hu
 rfl
set_option maxRecDepth 100000 in
set_option maxHeartbeats 1000000 in
theorem clone_ints (A : Option Addr) (n c : Nat) (zs : List Int) (w : World) (h : IsInts w A n c zs) (h0 : 0 < n) (hn : n ≤ 100000) : Calls Tryz.prog 56 #[.slice A n c] w (Cloned w zs) := by
 obtain ⟨i0, hi, hz0, hz1, hz2⟩ := info_parts infoI64
 obtain ⟨h1, h2, h3, h4, h5⟩ := h
 obtain ⟨b, off, rfl, hbl, hc⟩ := h5 h0
 unfold maxLen at h3
 have hq := Lib.run_eql_slice_nil (P := Tryz.prog)
 have ho : (w.alloc (.cells #[] 3)).ownsRow w.heap.size 3 1 (.slice (some ⟨w.heap.size, 0, none⟩) 0 0) 0 [] :=
  ⟨by simp, .inr ⟨w.heap.size, 0, #[], rfl, Nat.le_refl _, heap_alloc_new w _, by omega, by unfold maxLen; omega, by simp, by simp⟩⟩
 have hnew : ∀ j u, (zs.map (Value.int .i64 ·))[j]? = some u → (w.alloc (.cells #[] 3)).cell? ((⟨b, off, none⟩ : Addr).add j) = some u := by
  intro j u hj
  rw [List.getElem?_map] at hj
  obtain ⟨z, hz, rfl⟩ := Option.map_eq_some_iff.1 hj
  have := hc j z hz 0 _ rfl
  rw [show (⟨b, off, none⟩ : Addr).add j = ⟨b, off + j * 1 + 0, none⟩ by unfold Addr.add; split <;> simp_all]
  rw [World.cell?_alloc_lt _ _ ⟨b, off + j * 1 + 0, none⟩ hbl]
  exact this
 have H1 := Lib.hid h1
 have HO := Lib.hid ho
 have HN := Lib.hid hnew
 clear h1 ho hnew hc h4 h5
 go_enter Tryz.func56, Tryz.ntmps56
 go_wp2_with (at_builtin; refine wpList_append_own _ rfl _ _ 27 rfl w.heap.size 3 i0 (.int .i64 0) 1 8 Tryz.underlying27 hi hz0 hz1 hz2 rfl (by decide) _ _ _ rfl HO.out ⟨b, off, none⟩ n c (zs.map (Value.int .i64 ·)) rfl (by simp [H1.out]) HN.out (ints_one zs) (by unfold maxLen; omega) (by omega) (by simp) ?_; intro v' w1 ho1 hg1 hnil)
 have hb2 : Below w.heap.size w w1 := ((Below.refl _ _).alloc (Nat.le_refl _) _).grown hg1 (by simp) (fun k hk => (HO.out.lt k hk).1)
 have HO1 := Lib.hid ho1
 have HNil := Lib.hid hnil
 have HB := Lib.hid hb2
 clear ho1 hnil hb2 hg1
 go_wp2_with fail
 go_ret
 refine ⟨_, rfl, ?_, fun hv => ?_, HB.out⟩
 ·have := HO1.out
  rw [H1.out]
  simpa using this
 ·have := (HNil.out.1 hv).2
  omega
theorem Cloned.shape {w w' : World} {zs : List Int} {e : Ending} (h : Cloned w zs e w') (h0 : 0 < zs.length) : ∃ g cap, e = .returned (.slice (some ⟨g, 0, none⟩) zs.length cap) ∧ w.heap.size ≤ g ∧ g < w'.heap.size ∧ zs.length ≤ cap ∧ cap ≤ maxLen ∧
  (∀ (i : Nat) z, zs[i]? = some z → w'.cell? ⟨g, i, none⟩ = some (.int .i64 z)) ∧ Below w.heap.size w w' := by
 obtain ⟨v, rfl, ho, _, hb⟩ := h
 have hc := fun {g : Nat} (hg : v.ownBlock = some g) => ho.cells hg
 rcases ho.2 with ⟨rfl, hn⟩ | ⟨g, cap, cur, rfl, hbb, hg, hn, hm, hs, ht⟩
 ·omega
 ·refine ⟨g, cap, rfl, hbb, (Array.getElem?_eq_some_iff.1 hg).1, hn, hm, fun i z hz => ?_, hb⟩
  have hx := hc (g := g) rfl i (.int .i64 z) (by rw [List.getElem?_map, hz]; rfl)
  rw [show (⟨g, 0, none⟩ : Addr).add i = ⟨g, i, none⟩ by unfold Addr.add; split <;> simp_all] at hx
  exact hx
def NewOk (w : World) (n : Nat) (ss rs : List Int) (e : Ending) (w' : World) : Prop :=
 ∃ g, e = .returned (.tuple #[.pointer (some ⟨g, 0, none⟩), .nilIface]) ∧ w.heap.size ≤ g ∧ WorldAt w' g n ss rs 0 (.slice none 0 0) ∧ Below w.heap.size w w'
set_option maxRecDepth 100000 in
set_option maxHeartbeats 4000000 in
theorem world_New_ok (A : Option Addr) (n c : Nat) (zs : List Int) (A2 : Option Addr) (n2 c2 : Nat) (ys : List Int) (p : Int) (w : World) (h : IsInts w A n c zs) (h2 : IsInts w A2 n2 c2 ys) (hc : newC zs ys p = 0) :
  Calls Tryz.prog 32 #[.slice A n c, .slice A2 n2 c2, .int .i64 p] w (NewOk w n zs ys) := by
 obtain ⟨e1, e2, e3, e4, e5⟩ := newC_0 hc
 obtain ⟨r0, r1⟩ := rateB_iff.1 e1
 obtain ⟨g1, g2⟩ := clocksB_get e5 e4 r1
 have l1 := h.1
 have l2 := h2.1
 have hn2 : n2 = n := by omega
 subst hn2
 have hc1 := h.2.2.1
 have hc2 := h2.2.2.1
 unfold maxLen at hc1 hc2
 obtain ⟨b, off, rfl, hbl, hcell⟩ := h.2.2.2.2 (by omega)
 obtain ⟨b2, off2, rfl, hbl2, hcell2⟩ := h2.2.2.2.2 (by omega)
 have C0 := fun w => Rate_any p w
 rw [e1] at C0
 have C0 := Lib.hid C0
 have HA := Lib.hid h
 have HB := Lib.hid h2
 have L1 := Lib.hid l1
 have L2 := Lib.hid l2
 have G1 := Lib.hid g1
 have G2 := Lib.hid g2
 have HC := Lib.hid hcell
 have HC2 := Lib.hid hcell2
 have E5 := Lib.hid e5
 have n0 : 1 ≤ n2 := by omega
 have n6 : n2 ≤ 6 := by omega
 clear h h2 hc l1 l2 g1 g2 hcell hcell2 e1 e2 e3 e4 e5
 go_enter Tryz.func32, Tryz.ntmps32
 go_wp2_with (go_at_call 55; refine (C0.out _).mono ?_; rintro e w' ⟨rfl, rfl⟩)
 go_loop [34] (fun iv => ∃ i : Nat, i ≤ n2 ∧ iv = .int .i64 i ∧ clocksB p (zs.drop i) (ys.drop i) = true) (fun iv => n2 - (intOf iv).toNat)
 case atStart => exact ⟨0, by omega, rfl, by simpa using E5.out⟩
 case round =>
  obtain ⟨i, hi, rfl, hI⟩ := hrel
  by_cases d1 : i < n2
  ·obtain ⟨s, hs⟩ : ∃ z, zs[i]? = some z := ⟨_, List.getElem?_eq_getElem (by rw [L1.out]; omega)⟩
   obtain ⟨r, hr⟩ : ∃ z, ys[i]? = some z := ⟨_, List.getElem?_eq_getElem (by rw [L2.out]; omega)⟩
   have x0 := HC.out i s hs 0 _ rfl
   have x1 := HC2.out i r hr 0 _ rfl
   simp only [Nat.mul_one, Nat.add_zero] at x0 x1
   rw [clocksB_step hs hr] at hI
   simp only [Bool.and_eq_true, decide_eq_true_eq] at hI
   obtain ⟨i1, i2, i3, i4, i5⟩ := hI
   have I5 := Lib.hid i5
   clear hs hr i5
   go_wp2_with fail
   go_round
   case rel => exact ⟨i + 1, by omega, by go_num, I5.out⟩
   case measure => simp [intOf]; omega
  ·have : i = n2 := by omega
   subst this
   clear hI d1 hi
   go_wp2_with fail
   refine (clone_ints _ _ _ zs _ HA.out (by omega) (by omega)).mono ?_
   intro e w1 hcl
   obtain ⟨q1, k1, rfl, a1, a2, a3, a4, a5, a6⟩ := hcl.shape (by rw [L1.out]; omega)
   rw [L1.out] at a3
   have HB1 := Lib.hid a6
   have A5 := Lib.hid a5
   have z1 := a6.size
   rw [L1.out]
   clear hcl a5 a6
   go_wp2_with fail
   refine (clone_ints _ _ _ ys _ (HB.out.below HB1.out) (by omega) (by omega)).mono ?_
   intro e w2 hcl
   obtain ⟨q2, k2, rfl, b1, b2, b3, b4, b5, b6⟩ := hcl.shape (by rw [L2.out]; omega)
   rw [L2.out] at b3
   have HB2 := Lib.hid b6
   have B5 := Lib.hid b5
   have z2 := b6.size
   rw [L2.out]
   clear hcl b5 b6
   go_wp2_with fail
   go_ret2
   refine ⟨_, rfl, by omega, ⟨⟨q1, k1, q2, k2, Blk.new w2 _ _, by omega, by omega, by simp; omega, by simp; omega, a3, b3, a4, b4, fun i z hz => ?_, fun i z hz => ?_⟩, L1.out, L2.out, G1.out, G2.out, by omega, by omega, by omega, by omega⟩, ?_⟩
   ·rw [World.cell?_alloc_lt _ _ ⟨q1, i, none⟩ (by show q1 < _; omega), HB2.out.cell (p := ⟨q1, i, none⟩) (by show q1 < _; omega)]
    exact A5.out i z hz
   ·rw [World.cell?_alloc_lt _ _ ⟨q2, i, none⟩ (by show q2 < _; omega)]
    exact B5.out i z hz
   ·have hb1 := HB1.out
    have hb2 := HB2.out
    exact BeL
end Go.Proofs.YtldlandcjegikaaGreatDoor
