/- Proved: the tied card of noonlaw1.LoopsTell: it answers true for every input and leaves its arguments as they were. The card's own condition: errors.errorType holds what the program's text lays there. -/
import Derived.Test.YtccjomkgfadidaaDoorDoor
import Derived.Test.YtccjomkgfadidaaDoorFind2
import Derived.Test.YtccjomkgfadidaaDoorTightW
namespace Go.Proofs.YtccjomkgfadidaaDoor.lLoopsTell
open Go.ChangeShapes Go.WideShapes Go.ChangeAt Go.RowKit
set_option linter.unusedVariables false
set_option linter.unusedSimpArgs false
theorem sunk_mono {n : Nat} {l m : List REdge} (h : ∀ e ∈ l, e ∈ m) (g : Sunk (Arc l) n) : Sunk (Arc m) n := by
  obtain ⟨v, r, c, h1, h2, h3⟩ := g
  exact ⟨v, r, c, h1, h2, h3.mono (fun x y w hw => hw.mono h)⟩
/-- of which prefix the first way around is below nothing: what the document's loop tells is what the program does. -/
theorem fault_one {n : Nat} {zs : List REdge} {v c : Int} {e f : Int} (h : FaultS n zs v c)
    (g : (e = 0 ∧ ∃ i : Nat, i < zs.length ∧ f = i ∧ Sunk (Arc (zs.take (i + 1))) n ∧ ∀ j, j < i → ¬ Sunk (Arc (zs.take (j + 1))) n) ∨ (e = 5 ∧ f = 0 ∧ ∀ j, j < zs.length → ¬ Sunk (Arc (zs.take (j + 1))) n)) : v = f ∧ c = e := by
  rcases h with ⟨rfl, i, h1, rfl, h3, h4⟩ | ⟨rfl, rfl, h3⟩ <;> rcases g with ⟨rfl, j, g1, rfl, g3, g4⟩ | ⟨rfl, rfl, g3⟩
  · have : i = j := by
      rcases Nat.lt_trichotomy i j with q | q | q
      · exact absurd h3 (g4 i q)
      · exact q
      · exact absurd g3 (h4 j q)
    exact ⟨by rw [this], rfl⟩
  · exact absurd h3 (g3 i h1)
  · exact absurd g3 (h3 j g1)
  · exact ⟨rfl, rfl⟩
theorem find_one {n : Nat} {zs : List REdge} {k : Int} {loop : List Int} {e f : Int} (h : FindS n zs k loop)
    (g : (e = 0 ∧ ∃ i : Nat, i < zs.length ∧ f = i ∧ Sunk (Arc (zs.take (i + 1))) n ∧ ∀ j, j < i → ¬ Sunk (Arc (zs.take (j + 1))) n) ∨ (e = 5 ∧ f = 0 ∧ ∀ j, j < zs.length → ¬ Sunk (Arc (zs.take (j + 1))) n)) : (e = 0 ∧ k = 0 ∧ 1 ≤ loop.length) ∨ (e = 5 ∧ k = 5) := by
  rcases h with ⟨rfl, h2, _⟩ | ⟨rfl, h2, h3, _⟩ <;> rcases g with ⟨rfl, j, g1, rfl, g3, g4⟩ | ⟨rfl, rfl, g3⟩
  · exact absurd (sunk_mono (fun e he => List.mem_of_mem_take he) g3) h2
  · exact .inr ⟨rfl, rfl⟩
  · exact .inl ⟨rfl, rfl, h3⟩
  · exfalso
    by_cases h0 : zs.length = 0
    · have : zs = [] := List.length_eq_zero_iff.1 h0
      subst this
      obtain ⟨v, r, c, _, h5, h6⟩ := h2
      cases h6 with
      | start => omega
      | go _ hw => obtain ⟨e, he, _⟩ := hw; simp at he
    · have := g3 (zs.length - 1) (by omega)
      rw [show zs.length - 1 + 1 = zs.length by omega, List.take_length] at this
      exact this h2
set_option maxRecDepth 100000 in
set_option maxHeartbeats 16000000 in
theorem walk (a0 : Int) (a1 : Option Addr) (n1 c1 : Nat) (z1 : List REdge) (a2 : Option Addr) (n2 c2 : Nat) (z2 : List Int) (w : World) (h0 : -9223372036854775808 ≤ a0 ∧ a0 ≤ 9223372036854775807) (h1 : IsRecs w REdge.cells REdge.ok 4 a1 n1 c1 z1) (h2 : IsInts w a2 n2 c2 z2) (hg : HandleAt w) :
    Calls Tryd.prog 3 #[.int .i64 a0, .slice a1 n1 c1, .slice a2 n2 c2] w fun e w' => e = .returned (.bool true) ∧ Below w.heap.size w w' := by
  have HG := Lib.hid hg
  have CE := Lib.hid (r1_Edges a0 a1 n1 c1 z1 w h1)
  have CR := Lib.hid (fun w' (hb : Below w.heap.size w w') => loops_Room a0 a1 n1 c1 z1 a2 n2 c2 z2 w' (h1.below hb) (h2.below hb))
  have CF := Lib.hid (fun w' (hb : Below w.heap.size w w') => loops_Fault a0 a1 n1 c1 z1 w' (h1.below hb))
  have CX := Lib.hid (fun w' (hb : Below w.heap.size w w') => loops_Find a0 a1 n1 c1 z1 w' (h1.below hb))
  have HZ := Lib.hid h1
  have HP := Lib.hid h2
  have hm1 := h1.2.1
  have hm2 := h1.2.2.1
  unfold maxLen at hm2
  clear hg h0 h1 h2
  by_cases c0 : edgesC a0 z1 = 0
  · obtain ⟨c4, c5, c6, c7⟩ := edgesC_0 c0
    obtain ⟨N, rfl⟩ := Int.eq_ofNat_of_zero_le (show 0 ≤ a0 by omega)
    simp only [Int.toNat_natCast] at c7
    have hx : roomX N z1 z2 = roomV z1 z2 := by unfold roomX; rw [if_pos c0]
    have hy : roomE N z1 z2 = roomC z1 z2 := by unfold roomE; rw [if_pos c0]
    rw [hx, hy] at CR
    rw [c0] at CE
    have hn40 : n1 ≤ 40 := by have := HZ.out.1; omega
    have HL := Lib.hid HZ.out.1
    have CRR := Lib.hid (fun w' (hb : Below w.heap.size w w') => r1_Room N a1 n1 c1 z1 a2 n2 c2 z2 w' (HZ.out.below hb) c7 (by omega) hn40 (HP.out.below hb))
    have CT := Lib.hid (fun m w' (hb : Below w.heap.size w w') (hm : m ≤ n1) => r1_Tight N a1 m c1 (z1.take m) w' (recs_take (HZ.out.below hb) hm) (by omega) (by omega) (by omega) (edges_take c7 m))
    have C0 := Lib.hid c0
    obtain ⟨RV, hRV⟩ : ∃ v, roomV z1 z2 = v := ⟨_, rfl⟩
    obtain ⟨RC, hRC⟩ : ∃ v, roomC z1 z2 = v := ⟨_, rfl⟩
    rw [hRV, hRC] at CR CRR
    clear c0 c7 hx hy hRV hRC
    go_enter Tryd.func3, Tryd.ntmps3
    go_wp2_with fail
    refine CE.out.mono ?_
    rintro e w1 ⟨rfl, hb1⟩
    have HB1 := Lib.hid hb1
    clear hb1
    go_wp2_with fail
    refine (CRR.out _ HB1.out).mono ?_
    rintro e w' ⟨rfl, rfl⟩
    go_wp2_with fail
    refine (CR.out _ HB1.out).mono ?_
    rintro e w2 ⟨rfl, hb2⟩
    have HB2 := Lib.hid (HB1.out.trans (hb2.mono HB1.out.size))
    clear hb2
    go_wp2_with fail
    refine (Error_any RC RC _ (HG.out.below HB2.out)).mono ?_
    rintro e w3 ⟨rfl, hb3⟩
    have HB3 := Lib.hid (HB2.out.trans (hb3.mono HB2.out.size))
    clear hb3
    have rr : (RC == RC) = true := by simp
    have rv : (RV == RV) = true := by simp
    rw [rr]
    go_wp2_with fail
    clear rr rv
    go_loopw [7, 13, 14] (fun ev fv iv wx => ∃ (i : Nat) (e f : Int), iv = .int .i64 i ∧ i ≤ n1 ∧ ev = .int .i64 e ∧ fv = .int .i64 f ∧ ((e = 0 ∧ ∃ i : Nat, i < z1.length ∧ f = i ∧ Sunk (Arc (z1.take (i + 1))) N ∧ ∀ j, j < i → ¬ Sunk (Arc (z1.take (j + 1))) N) ∨ (e = 5 ∧ f = 0 ∧ ∀ j, j < i → ¬ Sunk (Arc (z1.take (j + 1))) N)) ∧ Below w.heap.size w wx) (fun _ _ iv _ => n1 - (intOf iv).toNat)
    case atStart => exact ⟨0, 5, 0, rfl, by omega, rfl, rfl, .inr ⟨rfl, rfl, fun j hj => absurd hj (by omega)⟩, HB3.out⟩
    case round =>
      obtain ⟨i, e, f, rfl, hi, rfl, rfl, hh, hB⟩ := hrel
      have HH := Lib.hid hh
      have HB := Lib.hid hB
      have hzw := hB.size
      clear hh hB
      have stop : (∃ e' f', e' = e ∧ f' = f ∧ ((e = 0 ∧ ∃ i : Nat, i < z1.length ∧ f = i ∧ Sunk (Arc (z1.take (i + 1))) N ∧ ∀ j, j < i → ¬ Sunk (Arc (z1.take (j + 1))) N) ∨ (e = 5 ∧ f = 0 ∧ ∀ j, j < z1.length → ¬ Sunk (Arc (z1.take (j + 1))) N)) ∧ ((i < n1 ∧ e = 0) ∨ ¬ i < n1)) ∨ (e = 5 ∧ f = 0 ∧ i < n1 ∧ ∀ j, j < i → ¬ Sunk (Arc (z1.take (j + 1))) N) := by
        rcases HH.out with ⟨h1, h2⟩ | ⟨h1, h2, h3⟩
        · left; exact ⟨e, f, rfl, rfl, .inl ⟨h1, h2⟩, by omega⟩
        · by_cases hin : i < n1
          · right; exact ⟨h1, h2, hin, h3⟩
          · left; exact ⟨e, f, rfl, rfl, .inr ⟨h1, h2, fun j hj => h3 j (by have := HL.out; omega)⟩, by omega⟩
      rcases stop with ⟨_, _, _, _, hst, hex⟩ | ⟨rfl, rfl, hin, hno⟩
      · have HST := Lib.hid hst
        have e1 : (¬ i < n1) ∨ (i < n1 ∧ (e == 5) = false) := by
          rcases hex with ⟨h1, h2⟩ | h1
          · right; exact ⟨h1, by simp; omega⟩
          · left; exact h1
        clear hst hex HH
        rcases e1 with e1 | ⟨e1, e2⟩
        all_goals
          go_wp2_with fail
          refine (CF.out _ HB.out).mono ?_
          rintro ee w4 ⟨v, c, rfl, hb4, hv⟩
          have HB4 := Lib.hid (HB.out.trans (hb4.mono HB.out.size))
          have hvc : v = f ∧ c = e := by
            rcases hv with ⟨h, _⟩ | ⟨_, h⟩
            · exact absurd C0.out h
            · rw [Int.toNat_natCast] at h; exact fault_one h HST.out
          obtain ⟨rfl, rfl⟩ := hvc
          clear hb4 hv
          go_wp2_with fail
          refine (Error_any c c _ (HG.out.below HB4.out)).mono ?_
          rintro ee w5 ⟨rfl, hb5⟩
          have HB5 := Lib.hid (HB4.out.trans (hb5.mono HB4.out.size))
          clear hb5
          have rr : (c == c) = true := by simp
          have rv : (v == v) = true := by simp
          rw [rr]
          go_wp2_with fail
          refine (CX.out _ HB5.out).mono ?_
          rintro ee w6 ⟨xa, xn, xc, k, rfl, hb6, hk⟩
          have HB6 := Lib.hid (HB5.out.trans (hb6.mono HB5.out.size))
          have hkk : (c = 0 ∧ k = 0 ∧ 1 ≤ xn) ∨ (c = 5 ∧ k = 5) := by
            rcases hk with ⟨h, _⟩ | ⟨_, loop, hl, h⟩
            · exact absurd C0.out h
            · rw [Int.toNat_natCast] at h
              have := find_one h HST.out
              rw [hl.1] at this
              exact this
          clear hb6 hk
          have kc : k = c := by omega
          subst kc
          go_wp2_with fail
          refine (Error_any k k _ (HG.out.below HB6.out)).mono ?_
          rintro ee w7 ⟨rfl, hb7⟩
          have HB7 := Lib.hid (HB6.out.trans (hb7.mono HB6.out.size))
          clear hb7 rr rv
          have rr : (k == k) = true := by simp
          rw [rr]
          rcases hkk with ⟨hk0, _, hxn⟩ | ⟨hk5, _⟩
          · subst hk0
            have hxp : 0 < xn := by omega
            go_wp2_with fail
            go_ret
            exact ⟨rfl, HB7.out⟩
          · subst hk5
            go_wp2_with fail
            go_ret
            exact ⟨rfl, HB7.out⟩
      · have C1 := Lib.hid (CT.out (i + 1) wr HB.out (by omega))
        have HNO := Lib.hid hno
        have k0 : (0 : Int) ≤ (i : Int) + 1 := by omega
        have k1 : (i : Int) + 1 ≤ (c1 : Int) := by omega
        have k2 : ((i : Int) + 1).toNat = i + 1 := by omega
        clear hno HH
        go_wp2_with fail
        refine C1.out.mono ?_
        rintro ee w4 (⟨hs, rfl, hb4⟩ | ⟨hs, D, H, ta, tb, tc, td, rfl, _, _, _, _, hb4⟩)
        · have HS := Lib.hid hs
          have HB4 := Lib.hid (HB.out.trans (hb4.mono HB.out.size))
          clear hs hb4
          go_wp2_with fail
          go_roundw
          case rel => exact ⟨i + 1, 0, i, by go_num, by omega, rfl, rfl, .inl ⟨rfl, i, by have := HL.out; omega, rfl, HS.out, HNO.out⟩, HB4.out⟩
          case measure => simp [intOf]; omega
        · have HS := Lib.hid hs
          have HB4 := Lib.hid (HB.out.trans (hb4.mono HB.out.size))
          clear hs hb4
          go_wp2_with fail
          go_roundw
          case rel => exact ⟨i + 1, 5, 0, by go_num, by omega, rfl, rfl, .inr ⟨rfl, rfl, fun j hj => by
            by_cases q : j = i
            · subst q; exact HS.out
            · exact HNO.out j (by omega)⟩, HB4.out⟩
          case measure => simp [intOf]; omega
  · have hx : roomX a0 z1 z2 = 0 := by unfold roomX; rw [if_neg c0]
    have hy : roomE a0 z1 z2 = edgesC a0 z1 := by unfold roomE; rw [if_neg c0]
    rw [hx, hy] at CR
    have hcc := edgesC_c a0 z1
    have C0 := Lib.hid c0
    have CFE := Lib.hid (show ∀ v c : Int, ((edgesC a0 z1 ≠ 0 ∧ c = edgesC a0 z1 ∧ v = 0) ∨ (edgesC a0 z1 = 0 ∧ FaultS a0.toNat z1 v c)) → c = edgesC a0 z1 ∧ v = 0 from fun v c h => by
      rcases h with ⟨_, h2⟩ | ⟨h1, _⟩
      · exact h2
      · exact absurd h1 c0)
    obtain ⟨E, hE⟩ : ∃ v, edgesC a0 z1 = v := ⟨_, rfl⟩
    rw [hE] at CR CE hcc CFE
    have hE0 : E ≠ 0 := by rw [← hE]; exact c0
    have hE5 : (E == 5) = false := by simp; omega
    have hE1 : (E == 0) = false := by simpa using hE0
    have hE2 : (E != 0) = true := by simpa using hE0
    have HEE := Lib.hid hE
    have HE0 := Lib.hid hE0
    have rr : (E == E) = true := by simp
    have ERR := Lib.hid (errV_ne hE0)
    clear c0 hE hE0 hx hy hcc
    go_enter Tryd.func3, Tryd.ntmps3
    go_wp2_with fail
    refine CE.out.mono ?_
    rintro e w1 ⟨rfl, hb1⟩
    have HB1 := Lib.hid hb1
    clear hb1
    go_wp2_with fail
    refine (CR.out _ HB1.out).mono ?_
    rintro e w2 ⟨rfl, hb2⟩
    have HB2 := Lib.hid (HB1.out.trans (hb2.mono HB1.out.size))
    clear hb2
    go_wp2_with fail
    refine (Error_any E E _ (HG.out.below HB2.out)).mono ?_
    rintro e w3 ⟨rfl, hb3⟩
    have HB3 := Lib.hid (HB2.out.trans (hb3.mono HB2.out.size))
    clear hb3
    go_wp2_with fail
    refine wp_loop_rounds 1 ?_
    rw [rounds_succ]
    have kk : ((0 : Int) < (n1 : Int)) ∨ ¬ ((0 : Int) < (n1 : Int)) := by omega
    rcases kk with kk | kk
    all_goals
      go_wp2_with fail
      refine (CF.out _ HB3.out).mono ?_
      rintro ee w4 ⟨v, c, rfl, hb4, hv⟩
      have HB4 := Lib.hid (HB3.out.trans (hb4.mono HB3.out.size))
      obtain ⟨rfl, rfl⟩ := CFE.out v c (by rw [HEE.out] at hv; exact hv)
      clear hb4 hv
      go_wp2_with fail
      refine (Error_any c c _ (HG.out.below HB4.out)).mono ?_
      rintro ee w5 ⟨rfl, hb5⟩
      have HB5 := Lib.hid (HB4.out.trans (hb5.mono HB4.out.size))
      clear hb5
      go_wp2_with fail
      refine (CX.out _ HB5.out).mono ?_
      rintro ee w6 ⟨xa, xn, xc, k, rfl, hb6, hk⟩
      have HB6 := Lib.hid (HB5.out.trans (hb6.mono HB5.out.size))
      have kc : k = c := by
        rcases hk with ⟨_, h⟩ | ⟨h, _⟩
        · rw [h, HEE.out]
        · exact absurd h C0.out
      subst kc
      clear hb6 hk
      go_wp2_with fail
      refine (Error_any k k _ (HG.out.below HB6.out)).mono ?_
      rintro ee w7 ⟨rfl, hb7⟩
      have HB7 := Lib.hid (HB6.out.trans (hb7.mono HB6.out.size))
      clear hb7
      go_wp2_with fail
      go_ret
      exact ⟨rfl, HB7.out⟩

set_option maxRecDepth 100000 in
theorem lifted (os : Os) (started : os.Started) (H : Type) (enc : TypeId × Value → H) :
    ReturnsInHanded {} Tryd.checked os 3 .any (fun w args => (Rows.loopsTellSpec.pre enc Tryd.prog Tryd.f3 [] false w args ∧ laidMetH Tryd.prog laidList w) ∧ sizedMet enc Tryd.prog Tryd.f3 (OpenSpec.ofChange Rows.loopsTellSpec) false w args)
      (Rows.loopsTellSpec.post enc Tryd.prog Tryd.f3 false true false false) := by
  refine returnsInHanded_of_change_and (C := Tryd.checked) (X := fun w _ => laidMetH Tryd.prog laidList w) (fun _ _ _ hh h => h.of_heap hh) own started (by kernel_rfl) Tryd.func3
    (ChangeSpec.witness_at (enc := enc) (C := Tryd.checked) (os := os) (X := fun w _ => laidMetH Tryd.prog laidList w) false (laidWorld os) #[.int .i64 0, .slice none 0 0, .slice none 0 0] 8 rfl (by kernel_rfl) (by kernel_rfl) (by kernel_rfl) (by kernel_rfl) (by kernel_rfl) (laidWorld_met os _)) ?_
  intro W base args ds gs before hval0 hW hcnd hreach hL _
  have hval : ∀ (j : Nat) t v, Tryd.f3.params[j]? = some t → args[j]? = some v → Value.okWide Tryd.prog W .any base t v := hval0
  have hW' := hW
  obtain ⟨p, q, hA0, hV, rfl, hfz, hnd⟩ := hW
  have hA : DataW.TrodAll enc Tryd.prog W 0 (fun _ => true) true Tryd.f3.params.toList args.toList ds p := hA0
  rw [Tryd.params3] at hA hval
  obtain ⟨v0, vs0, d0, ds0, p0, q0, hargs, rfl, rfl, g0, r0⟩ := trodAll_cons hA
  obtain ⟨v1, vs1, d1, ds1, p1, q1, rfl, rfl, rfl, g1, r1⟩ := trodAll_cons r0
  obtain ⟨v2, vs2, d2, ds2, p2, q2, rfl, rfl, rfl, g2, r2⟩ := trodAll_cons r1
  obtain ⟨rfl, rfl, rfl⟩ := trodAll_nil r2
  obtain rfl : args = #[v0, v1, v2] := by cases args; simp_all
  have hV2 : DataW.TrodVars enc Tryd.prog W (fun _ => true) [] gs q := hV
  obtain ⟨rfl, rfl⟩ : gs = [] ∧ q = [] := by
    cases gs with
    | nil => exact ⟨rfl, hV2⟩
    | cons g r => exact absurd hV2 (by intro h; cases h)
  obtain ⟨a0, rfl, rfl, rfl, u0⟩ := open_int Tryd.underlying3 (hval 0 3 v0 rfl rfl) g0
  have h0 := bounds_i64 u0
  have k1 := g1
  have lt1 : ∀ x ∈ p1, x.block < W.heap.size := by obtain ⟨m, hm⟩ := k1; exact DataW.trod_lt m _ _ _ hm
  have rd1 : Tryd.prog.readableRec 22 = true := by kernel_rfl
  have ls1 : 22 < Tryd.prog.types.size := of_decide_eq_true (by kernel_rfl)
  obtain ⟨a1, n1, c1, z1, rfl, h1⟩ := open_REdges (hval 1 22 v1 rfl rfl) g1
  have k2 := g2
  have lt2 : ∀ x ∈ p2, x.block < W.heap.size := by obtain ⟨m, hm⟩ := k2; exact DataW.trod_lt m _ _ _ hm
  have rd2 : Tryd.prog.readableRec 23 = true := by kernel_rfl
  have ls2 : 23 < Tryd.prog.types.size := of_decide_eq_true (by kernel_rfl)
  obtain ⟨a2, n2, c2, z2, rfl, h2⟩ := open_Ints (hval 2 23 v2 rfl rfl) g2
  clear hA0 hval0
  refine (walk a0 a1 n1 c1 z1 a2 n2 c2 z2 W h0 h1 h2 (handle_of_laid hL)).mono fun e W' ⟨he, bel⟩ => ?_
  subst he
  exact ⟨_, rfl, _, _, _, [], _, [], hW', trodAll_mk1 (shut_bool Tryd.underlying4 _), (trodAll_cons_mk (shut_int Tryd.underlying3 u0) (trodAll_cons_mk (Below.trod laidOut rd1 ls1 k1 bel lt1) (trodAll_cons_mk (Below.trod laidOut rd2 ls2 k2 bel lt2) trodAll_mk0))), rfl, bel.frame _, fun h => by cases h⟩

theorem over : Rows.loopsTellRow.holds Tryd.pinned (OpenSpec.ofChange Rows.loopsTellSpec) :=
  OpenClaim.holds_of_wide 3 Tryd.f3 rfl rfl rfl rfl rfl rfl rfl ⟨rfl, rfl, rfl, rfl, rfl⟩ rfl rfl rfl rfl rfl (by kernel_rfl) Tryd.func3 (by kernel_rfl)
    (of_decide_eq_true (by kernel_rfl)) (by unfold Func.isWrapper; rw [if_neg (of_decide_eq_false (by kernel_rfl))]; exact ⟨rfl, rfl⟩)
    (fun os started H enc _ => lifted os started H enc)

theorem card : Rows.LoopsTellCardSaid :=
  Claim7.holds_tied_plain_at .later [] [.handle] true (true, Rows.loopsTellCard.stood.harness.2) true
    over (fun _ h => by cases h) (by kernel_rfl) (fun _ h => by cases h) loopsTell_row_tie rfl ⟨rfl, rfl⟩ (by kernel_rfl) rfl
    (fun f fn hf hfn => by
      obtain rfl : f = 3 := Option.some.inj ((show Tryd.prog.funcNamed "noonmark/noonlaw1.LoopsTell" = some 3 by kernel_rfl).symm.trans hf) |>.symm
      obtain rfl : fn = Tryd.f3 := (Option.some.inj (Tryd.func3.symm.trans hfn)).symm
      exact ⟨by kernel_rfl, fun j t ht => by
        rw [Tryd.params3] at ht
        exact noStandIn (ps := #[3, 22, 23]) (by kernel_rfl) ht⟩)
    (by kernel_rfl)

#print axioms card
end Go.Proofs.YtccjomkgfadidaaDoor.lLoopsTell
