/- Texts that serve many laws, one behind the other. -/
import Derived.Test.YtldlandcjegikaaGreatDoorHK9
import Derived.Test.YtldlandcjegikaaGreatDoorHRunL
set_option linter.unusedVariables false
set_option linter.unusedSimpArgs false
namespace Go.Proofs.YtldlandcjegikaaGreatDoor

section
open Go.RowKit
theorem piece_le (c : UInt8) : ∀ (n : Nat) (l : List UInt8), l.length ≤ n → ∀ x ∈ piecesL c l, x.length ≤ l.length := by
 intro n
 induction n with
 | zero =>
  intro l hl x hx
  obtain rfl := List.length_eq_zero_iff.1 (Nat.le_zero.1 hl)
  rw [piecesL_none (by simp)] at hx
  simp at hx
  simp [hx]
 | succ n ih =>
  intro l hl x hx
  rcases cut_by c l with h | ⟨a, r, h, rfl⟩
  ·rw [piecesL_none h] at hx
   simp at hx
   rw [hx]; exact Nat.le_refl _
  ·rw [piecesL_cons h] at hx
   simp at hl ⊢
   rcases List.mem_cons.1 hx with rfl | hx
   ·omega
   ·have := ih r (by omega) x hx; omega
structure RunW (w : World) : Prop where
 hd : HandleAt w
 sp : SpanW w
 tb : TabAt w
 un : UnreadAt w
theorem RunW.below {w w' : World} (h : RunW w) (hb : Below w.heap.size w w') : RunW w' := ⟨h.hd.below hb, h.sp.below hb, h.tb.below hb, h.un.below hb⟩
theorem neg_one (n : Nat) : ¬ (-1 : Int) = (n : Int) := by omega
section
variable {w W : World} {a : NAd} {t : Int} {uv : Value} {us : List RLetter} {K : Nat} {S : Nat → NSt} {s x0 x1 x2 : ByteArray}
theorem net_show_no (i : Int) (h : NetAt w a ssR rsR 100 t uv us K S) (hi : hasN a.n i = false) :
  Calls Tryz.prog 65 #[.pointer (some ⟨a.N, 0, none⟩), .int .i64 i] w fun e w' => e = .returned (.tuple #[.int .i64 0, .iface 88 (.int .i64 1)]) ∧ Below w.heap.size w w' := by
 have CR := Lib.hid (world_Read_no a.g a.n ssR rsR t uv i w h.W.at hi)
 have c0 := h.net.cell 0
 simp at c0
 clear h hi
 go_enter Tryz.func65, Tryz.ntmps65
 go_wp2_with fail
 refine CR.out.mono ?_
 rintro e w2 ⟨rfl, hb2⟩
 go_wp2_with fail
 go_ret2
 exact ⟨rfl, hb2⟩
theorem net_show_any (h : NetAt w a ssR rsR 100 t uv us K S) (h3 : a.n = 3) (hT : TrueR t us S) (i : Int) (i0 : 0 ≤ i) :
  (-9223372036854775808 ≤ showV t i ∧ showV t i ≤ 9223372036854775807) ∧ Calls Tryz.prog 65 #[.pointer (some ⟨a.N, 0, none⟩), .int .i64 i] w fun e w' => e = .returned (.tuple #[.int .i64 (showV t i), errV (showC i)]) ∧ Below w.heap.size w w' := by
 unfold showV showC
 by_cases hi : i < 3
 ·rw [if_pos hi, if_pos hi]
  obtain ⟨k, rfl⟩ := Int.eq_ofNat_of_zero_le i0
  have b := hT.C.bd (i := k) (by omega) hT.t0 hT.t1
  refine ⟨by rw [Int.toNat_natCast]; omega, ?_⟩
  rw [Int.toNat_natCast]
  exact net_Show a ssR rsR 100 t uv us K S k w h (by omega)
 ·rw [if_neg hi, if_neg hi]
  refine ⟨by omega, ?_⟩
  have := net_show_no i h (by
   cases hb : hasN a.n i with
   | false => rfl
   | true => rw [hasN_yes] at hb; omega)
  rw [errV_ne (by decide)]
  exact this
theorem one {vs : List ByteArray} (h : (vs.length : Int) = 1) : ∃ x1, vs = [x1] := List.length_eq_one_iff.1 (by omega)
theorem two {vs : List ByteArray} (h : (vs.length : Int) = 2) : ∃ x1 x2, vs = [x1, x2] := by
 match vs, h with
 | [x1, x2], _ => exact ⟨x1, x2, rfl⟩
 | [], h => simp at h
 | [_], h => simp at h
 | _ :: _ :: _ :: _, h => simp at h; omega
theorem zero {vs : List ByteArray} (h : (vs.length : Int) = 0) : vs = [] := List.length_eq_zero_iff.1 (by omega)
theorem run_line (HR : RunW w) (h : NetAt w a ssR rsR 100 t uv us K S) (h3 : a.n = 3) (hT : TrueR t us S) (hK : K < 100000) (hs : s.size ≤ 1048576) :
  Calls Tryz.prog 37 #[.agg #[.pointer (some ⟨a.N, 0, none⟩)], .string s] w fun e w' => (cmdOf s.data.toList = .bad ∧ LineBad w e w') ∨ ∃ o c t' us' S', LineA t us S (cmdOf s.data.toList) o c t' us' S' ∧ LineDone w a uv K o c t' us' S' e w' := by
 have e1 := words_of s
 have e2 := words_len s
 have hsz := piece_le 32 _ s.data.toList (Nat.le_refl _)
 rw [str_len2] at hsz
 obtain ⟨ws, hw⟩ : ∃ ws, Lib.splitB ⟨#[32]⟩ 0 (Lib.countB s ⟨#[32]⟩) s = ws := ⟨_, rfl⟩
 rw [hw] at e1
 rw [← e1] at e2 hsz
 rw [List.length_map] at e2
 have hcm : cmdOf s.data.toList = cmdW (wordK ((ws.map (·.data.toList)).headD [])) (ws.map (·.data.toList)).tail := by unfold cmdOf; rw [e1]
 rw [hcm]
 cases ws with
 | nil => simp at e2
 | cons x0 vs =>
  have hcm2 : cmdW (wordK (((x0 :: vs).map (·.data.toList)).headD [])) ((x0 :: vs).map (·.data.toList)).tail = cmdW (wordK x0.data.toList) (vs.map (·.data.toList)) := rfl
  rw [hcm2]
  have hq := eqs_of x0
  have hk := wordK_lt x0.data.toList
  obtain ⟨k, ek⟩ : ∃ k, wordK x0.data.toList = k := ⟨_, rfl⟩
  rw [ek] at hq hk ⊢
  have sz : ∀ x ∈ vs, x.size ≤ 1048576 := fun x hx => by
   have := hsz x.data.toList (List.mem_map.2 ⟨x, List.mem_cons_of_mem _ hx, rfl⟩)
   rw [str_len2] at this
   omega
  have hlen := Lib.countB_le ⟨#[32]⟩ (by decide) s.size s (Nat.le_refl _)
  simp only [List.length_cons] at e2
  by_cases hl : wantN k = (vs.length : Int)
  ·have bad : ∀ {v : List (List UInt8)}, v.all num7B = false → cmdW k v = .bad := by intro v hv; unfold cmdW; rw [if_neg (by rw [hv]; simp)]
   rcases ten hk with rfl | rfl | rfl | rfl | rfl | rfl | rfl | rfl | rfl | rfl
   ·exact absurd hl (neg_one _)
   ·obtain ⟨x1, rfl⟩ := one (show (vs.length : Int) = 1 by rw [← hl]; rfl)
    have z1 := sz x1 (by simp)
    cases hn : num7B x1.data.toList with
    | false =>
     refine (line_bad1 HR.sp hs e2 hw z1 HR.un 1 hq (by omega) hn).mono ?_
     intro e w' g
     exact .inl ⟨bad (by simp [hn]), g⟩
    | true =>
     obtain ⟨c, t', us', S', hA⟩ := nact_total 3 ssR rsR t us S ⟨((1 : Nat) : Int), atoV x1.data.toList, 0⟩ rfl rfl (by have := h.has; rw [h3] at this; exact this)
     refine (line_act1 HR.sp hs e2 hw z1 h h3 hK 1 c t' us' S' hq (by omega) hn hA).mono ?_
     intro e w' g
     exact .inr ⟨_, _, _, _, _, by rw [show cmdW 1 ([x1].map (·.data.toList)) = .act ((1 : Nat) : Int) (atoV x1.data.toList) 0 by simp [cmdW, wantN, hn]]; exact .act _ _ _ c t' us' S' hA, g⟩
   ·obtain ⟨x1, x2, rfl⟩ := two (show (vs.length : Int) = 2 by rw [← hl]; rfl)
    have z1 := sz x1 (by simp)
    have z2 := sz x2 (by simp)
    cases hn : num7B x1.data.toList with
    | false =>
     refine (line_bad2 HR.sp hs e2 hw z1 z2 HR.un 2 hq (by omega) hn).mono ?_
     intro e w' g
     exact .inl ⟨bad (by simp [hn]), g⟩
    | true =>
     cases hn2 : num7B x2.data.toList with
     | false =>
      refine (line_bad3 HR.sp hs e2 hw z1 z2 HR.un 2 hq (by omega) hn hn2).mono ?_
      intro e w' g
      exact .inl ⟨bad (by simp [hn2]), g⟩
     | true =>
      obtain ⟨c, t', us', S', hA⟩ := nact_total 3 ssR rsR t us S ⟨2, atoV x1.data.toList, atoV x2.data.toList⟩ rfl rfl (by have := h.has; rw [h3] at this; exact this)
      refine (line_ask HR.sp hs e2 hw z1 z2 h h3 hK c t' us' S' hq hn hn2 hA).mono ?_
      intro e w' g
      exact .inr ⟨_, _, _, _, _, by rw [show cmdW 2 ([x1, x2].map (·.data.toList)) = .act 2 (atoV x1.data.toList) (atoV x2.data.toList) by simp [cmdW, wantN, hn, hn2]]; exact .act _ _ _ c t' us' S' hA, g⟩
   ·obtain ⟨x1, rfl⟩ := one (show (vs.length : Int) = 1 by rw [← hl]; rfl)
    have z1 := sz x1 (by simp)
    cases hn : num7B x1.data.toList with
    | false =>
     refine (line_bad1 HR.sp hs e2 hw z1 HR.un 3 hq (by omega) hn).mono ?_
     intro e w' g
     exact .inl ⟨bad (by simp [hn]), g⟩
    | true =>
     obtain ⟨c, t', us', S', hA⟩ := nact_total 3 ssR rsR t us S ⟨((3 : Nat) : Int), atoV x1.data.toList, 0⟩ rfl rfl (by have := h.has; rw [h3] at this; exact this)
     refine (line_act1 HR.sp hs e2 hw z1 h h3 hK 3 c t' us' S' hq (by omega) hn hA).mono ?_
     intro e w' g
     exact .inr ⟨_, _, _, _, _, by rw [show cmdW 3 ([x1].map (·.data.toList)) = .act ((3 : Nat) : Int) (atoV x1.data.toList) 0 by simp [cmdW, wantN, hn]]; exact .act _ _ _ c t' us' S' hA, g⟩
   ·obtain ⟨x1, rfl⟩ := one (show (vs.length : Int) = 1 by rw [← hl]; rfl)
    have z1 := sz x1 (by simp)
    cases hn : num7B x1.data.toList with
    | false =>
     refine (line_bad1 HR.sp hs e2 hw z1 HR.un 4 hq (by omega) hn).mono ?_
     intro e w' g
     exact .inl ⟨bad (by simp [hn]), g⟩
    | true =>
     obtain ⟨c, t', us', S', hA⟩ := nact_total 3 ssR rsR t us S ⟨((4 : Nat) : Int), atoV x1.data.toList, 0⟩ rfl rfl (by have := h.has; rw [h3] at this; exact this)
     refine (line_act1 HR.sp hs e2 hw z1 h h3 hK 4 c t' us' S' hq (by omega) hn hA).mono ?_
     intro e w' g
     exact .inr ⟨_, _, _, _, _, by rw [show cmdW 4 ([x1].map (·.data.toList)) = .act ((4 : Nat) : Int) (atoV x1.data.toList) 0 by simp [cmdW, wantN, hn]]; exact .act _ _ _ c t' us' S' hA, g⟩
   ·obtain ⟨x1, rfl⟩ := one (show (vs.length : Int) = 1 by rw [← hl]; rfl)
    have z1 := sz x1 (by simp)
    cases hn : num7B x1.data.toList with
    | false =>
     refine (line_bad1 HR.sp hs e2 hw z1 HR.un 5 hq (by omega) hn).mono ?_
     intro e w' g
     exact .inl ⟨bad (by simp [hn]), g⟩
    | true =>
     obtain ⟨c, t', us', S', hA⟩ := nact_total 3 ssR rsR t us S ⟨((5 : Nat) : Int), atoV x1.data.toList, 0⟩ rfl rfl (by have := h.has; rw [h3] at this; exact this)
     refine (line_act1 HR.sp hs e2 hw z1 h h3 hK 5 c t' us' S' hq (by omega) hn hA).mono ?_
     intro e w' g
     exact .inr ⟨_, _, _, _, _, by rw [show cmdW 5 ([x1].map (·.data.toList)) = .act ((5 : Nat) : Int) (atoV x1.data.toList) 0 by simp [cmdW, wantN, hn]]; exact .act _ _ _ c t' us' S' hA, g⟩
   ·obtain ⟨x1, rfl⟩ := one (show (vs.length : Int) = 1 by rw [← hl]; rfl)
    have z1 := sz x1 (by simp)
    cases hn : num7B x1.data.toList with
    | false =>
     refine (line_bad1 HR.sp hs e2 hw z1 HR.un 6 hq (by omega) hn).mono ?_
     intro e w' g
     exact .inl ⟨bad (by simp [hn]), g⟩
    | true =>
     refine (line_show HR.sp hs e2 hw z1 h h3 hq hn (fun w' hb i i0 _ => net_show_any (h.below hb) h3 hT i i0)).mono ?_
     intro e w' g
     exact .inr ⟨_, _, _, _, _, by rw [show cmdW 6 ([x1].map (·.data.toList)) = .show (atoV x1.data.toList) by simp [cmdW, wantN, hn]]; exact .show _, g⟩
   ·obtain ⟨x1, rfl⟩ := one (show (vs.length : Int) = 1 by rw [← hl]; rfl)
    have z1 := sz x1 (by simp)
    cases hn : num7B x1.data.toList with
    | false =>
     refine (line_bad1 HR.sp hs e2 hw z1 HR.un 7 hq (by omega) hn).mono ?_
     intro e w' g
     exact .inl ⟨bad (by simp [hn]), g⟩
    | true =>
     obtain ⟨b0, b1⟩ := num7_bd hn
     obtain ⟨d1, d2, d3, d4, d5⟩ := dateX_ok b0 b1
     refine (line_date HR.sp hs e2 hw z1 h h3 HR.tb hq hn _ d1 d2 d3 d4 d5).mono ?_
     intro e w' g
     exact .inr ⟨_, _, _, _, _, by rw [show cmdW 7 ([x1].map (·.data.toList)) = .date (atoV x1.data.toList) by simp [cmdW, wantN, hn]]; exact .date _, g⟩
   ·obtain ⟨x1, x2, rfl⟩ := two (show (vs.length : Int) = 2 by rw [← hl]; rfl)
    have z1 := sz x1 (by simp)
    have z2 := sz x2 (by simp)
    cases hn : num7B x1.data.toList with
    | false =>
     refine (line_bad2 HR.sp hs e2 hw z1 z2 HR.un 8 hq (by omega) hn).mono ?_
     intro e w' g
     exact .inl ⟨bad (by simp [hn]), g⟩
    | true =>
     cases hn2 : num7B x2.data.toList with
     | false =>
      refine (line_bad3 HR.sp hs e2 hw z1 z2 HR.un 8 hq (by omega) hn hn2).mono ?_
      intro e w' g
      exact .inl ⟨bad (by simp [hn2]), g⟩
     | true =>
      refine (line_offset HR.sp hs e2 hw z1 z2 h h3 hq hn hn2 (fun x hO => hT.off_right (by decide) hO)).mono ?_
      rintro e w' ⟨x, c, hO, g⟩
      exact .inr ⟨_, _, _, _, _, by rw [show cmdW 8 ([x1, x2].map (·.data.toList)) = .offset (atoV x1.data.toList) (atoV x2.data.toList) by simp [cmdW, wantN, hn, hn2]]; exact .offset _ _ x c hO, g⟩
   ·obtain rfl := zero (show (vs.length : Int) = 0 by rw [← hl]; rfl)
    refine (line_wide HR.sp hs e2 hw h h3 hq (fun v c hw => by have := hT.wide_bd hw; omega)).mono ?_
    rintro e w' ⟨v, c, hO, g⟩
    exact .inr ⟨_, _, _, _, _, by rw [show cmdW 9 (([] : List ByteArray).map (·.data.toList)) = .wide by simp [cmdW, wantN]]; exact .wide v c hO, g⟩
  ·have hb : cmdW k (vs.map (·.data.toList)) = .bad := by unfold cmdW; rw [if_neg (by rw [List.length_map]; exact fun g => hl g.1)]
   rw [hb]
   refine (line_none HR.sp HR.un hs (vs.length + 1) (x0 :: vs) (by omega) e2 hw rfl k hk hq (by omega) a.N).mono ?_
   intro e w' g
   exact .inl ⟨rfl, g⟩
end
end


section
open Go.RowKit
section
variable {W0 w : World} {a : NAd} {t : Int} {uv : Value} {us : List RLetter} {K : Nat} {S : Nat → NSt} {s : ByteArray}
def AnsDone (w : World) (a : NAd) (uv : Value) (K : Nat) (out : List UInt8) (t' : Int) (us' : List RLetter) (S' : Nat → NSt) (e : Ending) (w' : World) : Prop :=
 e = .returned (.string ⟨out.toArray⟩) ∧ ∃ uv' K', K' ≤ K + 1 ∧ NetAt w' a ssR rsR 100 t' uv' us' K' S' ∧ Kept (NetMine a uv) w w' ∧ (∀ q, uv'.ownBlock = some q → uv.ownBlock = some q ∨ w.heap.size ≤ q)
theorem NetAt.low1 (h : NetAt w a ssR rsR 100 t uv us K S) (hg : W0.heap.size ≤ a.g) : ∀ k, NetMine a uv k → W0.heap.size ≤ k ∧ k < w.heap.size := by
 intro k e
 have h1 := h.W.gB
 have h2 := h.W.Bw
 rcases e with e | e | ⟨i, hi, e⟩
 ·omega
 ·have := h.W.low k e; omega
 ·obtain ⟨q1, q2, _⟩ := h.ad.Bg i hi
  have r1 := (h.nd i hi).blk.lt
  have r2 := (h.nd i hi).mp.lt
  rcases e with e | e <;> omega
theorem kept_base (hg : W0.heap.size ≤ a.g) (h : NetAt w a ssR rsR 100 t uv us K S) (hb : Below W0.heap.size W0 w) {w1 : World} (hK : Kept (NetMine a uv) w w1) : Below W0.heap.size W0 w1 :=
 hb.trans (hK.toBelow hb.size (fun k e => (h.low1 hg k e).1))
set_option maxRecDepth 100000 in
set_option maxHeartbeats 8000000 in
theorem run_answer (HR : RunW W0) (hb0 : Below W0.heap.size W0 w) (hg : W0.heap.size ≤ a.g) (h : NetAt w a ssR rsR 100 t uv us K S) (h3 : a.n = 3) (hT : TrueR t us S) (hK : K < 100000) (hs : s.size ≤ 1048576) :
  Calls Tryz.prog 17 #[.agg #[.pointer (some ⟨a.N, 0, none⟩)], .string s] w fun e w' => ∃ out t' us' S', Ans t us S (cmdOf s.data.toList) out t' us' S' ∧ AnsDone w a uv K out t' us' S' e w' := by
 obtain ⟨X, hX⟩ : ∃ X, w.alloc (.cells #[.pointer (some ⟨a.N, 0, none⟩)] 46) = X := ⟨_, rfl⟩
 have hbX : Below w.heap.size w X := by rw [← hX]; exact (Below.refl _ w).alloc (Nat.le_refl _) _
 have CL := Lib.hid (run_line (HR.below (hb0.trans (hbX.mono hb0.size))) (h.below hbX) h3 hT hK hs)
 have HX := Lib.hid hX
 have HBX := Lib.hid hbX
 have HN := Lib.hid h
 have HRr := Lib.hid HR
 have HB0 := Lib.hid hb0
 have HG := Lib.hid hg
 have hXc : X.cell? ⟨w.heap.size, 0, none⟩ = some (.pointer (some ⟨a.N, 0, none⟩)) := by rw [← hX]; simp
 have hXs : w.heap.size + 1 = X.heap.size := by rw [← hX]; simp
 clear h hT hK hs hb0 hg HR hbX h3
 go_enter Tryz.func17, Tryz.ntmps17
 go_wp2_with fail
 refine CL.out.mono ?_
 rintro e w1 (⟨hc, rfl, hb1⟩ | ⟨o, c, t', us', S', hA, rfl, uv', K', hK', hN, hKp, hu⟩)
 ·have HC := Lib.hid hc
  have HB1 : Below w.heap.size w w1 := HBX.out.trans (hb1.mono HBX.out.size)
  have hz1 := HB1.size
  clear hc hXc hXs hb1
  go_wp2_with fail
  refine (as_bad _ .nilIface _ (HRr.out.hd.below (HB0.out.trans (Below.mono (show Below w.heap.size w _ from BeL) HB0.out.size))) (by simp) (by simp)).mono ?_
  rintro e w2 ⟨rfl, rfl⟩
  go_wp2_with fail
  go_ret
  refine ⟨_, t, us, S, by rw [HC.out]; exact .bad, rfl, uv, K, Nat.le_succ K, HN.out.below ?_, (Kept.refl _ w).below ?_, fun _ e => .inl e⟩
  ·exact BeL
  ·exact BeL
 ·have HK1 := Lib.hid (((Kept.refl (NetMine a uv) w).below HBX.out).trans hKp (fun _ e => .inl e))
  have HB1 := Lib.hid (kept_base HG.out HN.out HB0.out HK1.out)
  have HN1 := Lib.hid hN
  have HA := Lib.hid hA
  have HU := Lib.hid (fun q e => (hu q e).imp id (fun h => Nat.le_trans HBX.out.size h))
  have HK' := Lib.hid hK'
  clear hA hN hKp hu hXc hXs hX hK'
  by_cases c0 : c = 0
  ·subst c0
   rw [errV_0]
   go_wp2_with (go_at_call 38; refine (as_nil _ _).mono ?_; rintro e w' ⟨rfl, rfl⟩)
   go_ret
   refine ⟨_, t', us', S', .of _ o 0 t' us' S' HA.out, rfl, uv', K', HK'.out, HN1.out.below ?_, HK1.out.below ?_, HU.out⟩
   ·exact BeL
   ·exact BeL
  ·have ec := errV_ne c0
   rw [ec]
   go_wp2_with fail
   refine (as_miss c _ .nilIface _ (HRr.out.hd.below (HB1.out.trans (Below.mono (show Below w1.heap.size w1 _ from BeL) HB1.out.size))) (by simp)).mono ?_
   rintro e w2 ⟨rfl, hw2⟩
   have kE : Blk w2 (w1.heap.size + 1) 88 #[.int .i64 0] := by rw [hw2]; exact BkD
   have HB2 : Below w1.heap.size w1 w2 := by rw [hw2]; exact BeL
   have y0 := kE.cell 0
   have z0 := kE.fz 0
   have l0 := kE.lt
   simp at y0
   clear hw2
   go_wp2_with fail
   refine (as_hit c _ (.int .i64 0) _ (HRr.out.hd.below (HB1.out.trans (Below.mono HB2 HB1.out.size))) y0 z0).mono ?_
   rintro e w3 ⟨rfl, hw3⟩
   have kF : Blk w3 (w1.heap.size + 1) 88 #[.int .i64 c] := by rw [hw3]; exact BkD
   have HB3 : Below w1.heap.size w1 w3 := by rw [hw3]; exact BeL
   have y3 := kF.cell 0
   have l3 := kF.lt
   simp at y3
   clear hw3 kE kF y0 z0 l0 HB2
   go_wp2_with (go_at_call 39; refine (errno_Error _ _).mono ?_; rintro e w' ⟨rfl, rfl⟩)
   go_ret
   refine ⟨_, t', us', S', .of _ o c t' us' S' HA.out, by unfold ansL; rw [if_neg c0]; rfl, uv', K', HK'.out, HN1.out.below ?_, HK1.out.below ?_, HU.out⟩
   ·exact BeL
   ·exact BeL
end
end
end Go.Proofs.YtldlandcjegikaaGreatDoor
