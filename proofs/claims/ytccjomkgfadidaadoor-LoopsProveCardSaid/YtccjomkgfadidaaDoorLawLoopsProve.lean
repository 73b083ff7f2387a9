/- Proved: the tied card of noonlaw1.LoopsProve: it answers true for every input and leaves its arguments as they were. The card's own condition: errors.errorType holds what the program's text lays there. -/
import Derived.Test.YtccjomkgfadidaaDoorDoor
import Derived.Test.YtccjomkgfadidaaDoorFind2
import Derived.Test.YtccjomkgfadidaaDoorAllF
import Derived.Test.YtccjomkgfadidaaDoorFits
import Derived.Test.YtccjomkgfadidaaDoorFitP
import Derived.Deep.DeepCutAuto
namespace Go.Proofs.YtccjomkgfadidaaDoor.lLoopsProve
open Go.ChangeShapes Go.WideShapes Go.ChangeAt Go.RowKit
set_option linter.unusedVariables false
set_option linter.unusedSimpArgs false
theorem blk_recs_lp {E : Type} (cells : E → List Value) (ok : E → Prop) (k : Nat) (hk : ∀ z, (cells z).length = k) {w : World} {g : Nat} {t : TypeId} {zs : List E} {cs : Array Value} (h : Blk w g t cs) (hc : cs = (zs.flatMap cells).toArray) {n : Nat} (hl : zs.length = n) (hm : n ≤ maxLen) (hok : ∀ z ∈ zs, ok z) : IsRecs w cells ok k (some ⟨g, 0, none⟩) n n zs := by
  refine ⟨hl, Nat.le_refl _, hm, hok, fun _ => ⟨g, 0, rfl, h.lt, fun i z hz j u hj => ?_⟩⟩
  have := flat_get cells k hk zs i j z u hz hj
  rw [h.cell, hc, List.getElem?_toArray, Nat.zero_add]
  exact this
theorem err_opq2 (c : Int) (N : Nat) : ∃ (E : Value) (q : Bool), errV c = E ∧ (∀ w, (binOp .eql 28 E .nilIface).run Tryd.prog w = .ok (.bool q) w) ∧ (∀ w, (eqGuard .eql 28 (.tmp N) (.const .nilIface) E .nilIface).run Tryd.prog w = .ok () w) ∧ (q = decide (c = 0)) := by
  by_cases h : c = 0
  · subst h
    exact ⟨_, true, rfl, fun w => by kernel_rfl, fun w => by kernel_rfl, rfl⟩
  · rw [errV_ne h]
    exact ⟨_, false, rfl, fun w => by kernel_rfl, fun w => by kernel_rfl, (decide_eq_false h).symm⟩
def twoL : List REdge := [⟨0, 1, 5, 6⟩, ⟨0, 1, 1, 2⟩]
theorem two_sunk : Sunk (Arc twoL) 2 := by
  have a1 : Arc twoL 0 1 2 := ⟨⟨0, 1, 1, 2⟩, by simp [twoL], .inl ⟨rfl, rfl, rfl⟩⟩
  have a2 : Arc twoL 1 0 (-5) := ⟨⟨0, 1, 5, 6⟩, by simp [twoL], .inr ⟨rfl, rfl, rfl⟩⟩
  exact ⟨0, 2, -3, by omega, by omega, ((Way.one a1).app (.one a2)).eq (by omega) (by omega)⟩
theorem two_ok : edgesC 2 twoL = 0 := by decide
/-- what is found, and the error of all bounds, fit together. -/
theorem prove_two {N : Int} {zs : List REdge} {k k' : Int} (hf : (edgesC N zs ≠ 0 ∧ k = edgesC N zs) ∨ (edgesC N zs = 0 ∧ ∃ loop, FindS N.toNat zs k loop))
    (ha : (edgesC N zs ≠ 0 ∧ k' = edgesC N zs) ∨ (edgesC N zs = 0 ∧ ((Sunk (Arc zs) N.toNat ∧ k' = 7) ∨ (¬ Sunk (Arc zs) N.toNat ∧ k' ≠ 7)))) (hk : k ≠ 0) : ((k == 5) && (k' == 7)) = false := by
  rcases hf with ⟨h1, rfl⟩ | ⟨h1, loop, h⟩
  · rcases edgesC_c N zs with q | q | q | q <;> simp [q]
  · rcases ha with ⟨h2, _⟩ | ⟨_, ⟨h2, _⟩ | ⟨_, h2⟩⟩
    · exact absurd h1 h2
    · rcases h with ⟨_, h, _⟩ | ⟨h, _⟩
      · exact absurd h2 h
      · exact absurd h hk
    · simp [h2]
theorem fitsV_c {n : Int} {zs : List REdge} {cl : List Int} (h : fitsV n zs cl = true) : fitsC n zs cl = 0 := by
  unfold fitsV at h
  simp only [Bool.and_eq_true, decide_eq_true_eq] at h
  exact h.1
/-- with such a loop none fit. -/
theorem prove_not {N : Int} {zs : List REdge} {loop cl : List Int} (h1 : roomE N zs loop = 0) (h2 : roomX N zs loop < 0) : fitsV N zs cl = false := by
  have he : edgesC N zs = 0 := by
    refine Classical.byContradiction fun h => ?_
    unfold roomE at h1
    rw [if_neg h] at h1
    exact h h1
  unfold roomE at h1
  unfold roomX at h2
  rw [if_pos he] at h1 h2
  obtain ⟨_, _, _, hl⟩ := edgesC_0 he
  have := room_sunk hl h1 h2
  cases h : fitsV N zs cl
  · rfl
  · exact absurd this (fit_not_sunk h)
set_option maxRecDepth 100000 in
set_option maxHeartbeats 16000000 in
theorem walk (a0 : Int) (a1 : Option Addr) (n1 c1 : Nat) (z1 : List REdge) (a2 : Option Addr) (n2 c2 : Nat) (z2 : List Int) (a3 : Option Addr) (n3 c3 : Nat) (z3 : List Int) (w : World) (h0 : -9223372036854775808 ≤ a0 ∧ a0 ≤ 9223372036854775807) (h1 : IsRecs w REdge.cells REdge.ok 4 a1 n1 c1 z1) (h2 : IsInts w a2 n2 c2 z2) (h3 : IsInts w a3 n3 c3 z3) (hg : HandleAt w) :
    Calls Tryd.prog 5 #[.int .i64 a0, .slice a1 n1 c1, .slice a2 n2 c2, .slice a3 n3 c3] w fun e w' => e = .returned (.bool true) ∧ Below w.heap.size w w' := by
  have HG := Lib.hid hg
  clear hg
  have CX := Lib.hid (fun w' (hb : Below w.heap.size w w') => loops_Find a0 a1 n1 c1 z1 w' (h1.below hb))
  have CR := Lib.hid (fun B m d loop w' (hb : Below w.heap.size w w') (hp : IsInts w' B m d loop) => loops_Room a0 a1 n1 c1 z1 B m d loop w' (h1.below hb) hp)
  have CA := Lib.hid (fun w' (hb : Below w.heap.size w w') => bounds_All_f a0 a1 n1 c1 z1 w' (h1.below hb))
  have CF := Lib.hid (fun w' (hb : Below w.heap.size w w') => bounds_Fits a0 a1 n1 c1 z1 a3 n3 c3 z3 w' (h1.below hb) (h3.below hb))
  have HP := Lib.hid (fun w' (hb : Below w.heap.size w w') => h2.below hb)
  clear h0 h1 h2 h3
  go_enter Tryd.func5, Tryd.ntmps5
  go_wp2_with fail
  have IR := blk_recs_lp REdge.cells REdge.ok 4 (fun _ => rfl) (zs := twoL) (Blk.new w 43 #[.int .i64 0, .int .i64 1, .int .i64 5, .int .i64 6, .int .i64 0, .int .i64 1, .int .i64 1, .int .i64 2]) rfl (n := 2) rfl (by unfold maxLen; omega) (by
    intro z hz
    simp [twoL] at hz
    rcases hz with rfl | rfl <;> (unfold REdge.ok i64B; simp only []; omega))
  have HB0 := Lib.hid (show Below w.heap.size w (w.alloc (.cells #[.int .i64 0, .int .i64 1, .int .i64 5, .int .i64 6, .int .i64 0, .int .i64 1, .int .i64 1, .int .i64 2] 43)) from (Below.refl _ _).alloc (Nat.le_refl _) _)
  have C0 := Lib.hid (loops_Find 2 _ 2 2 twoL _ IR)
  have HIR := Lib.hid IR
  clear IR
  refine C0.out.mono ?_
  rintro e w1 ⟨fa, fn, fc, k, rfl, hb1, hk⟩
  obtain ⟨rfl, loop, hl, hre, hrx⟩ : k = 0 ∧ ∃ loop, IsInts w1 fa fn fc loop ∧ roomE 2 twoL loop = 0 ∧ roomX 2 twoL loop < 0 := by
    rcases hk with ⟨h, _⟩ | ⟨_, loop, hl, h⟩
    · exact absurd two_ok h
    · rcases h with ⟨_, h, _⟩ | ⟨h1, _, _, _, h4, h5⟩
      · exact absurd two_sunk h
      · exact ⟨h1, loop, hl, by unfold roomE; rw [if_pos two_ok]; exact h4, by unfold roomX; rw [if_pos two_ok]; exact h5⟩
  have C1 := Lib.hid (loops_Room 2 _ 2 2 twoL fa fn fc loop w1 (HIR.out.below hb1) hl)
  rw [hre] at C1
  obtain ⟨X, hX⟩ : ∃ x, roomX 2 twoL loop = x := ⟨_, rfl⟩
  rw [hX] at C1 hrx
  have HB1 := Lib.hid (HB0.out.trans (hb1.mono HB0.out.size))
  clear hb1 hk hl hre hX C0 HIR HB0
  go_wp2_with fail
  refine C1.out.mono ?_
  rintro e w2 ⟨rfl, hb2⟩
  have HB2 := Lib.hid (HB1.out.trans (hb2.mono HB1.out.size))
  clear hb2 C1
  go_wp2_with fail
  refine (CX.out _ HB2.out).mono ?_
  rintro e w3 ⟨xa, xn, xc, k, rfl, hb3, hk⟩
  have HB3 := Lib.hid (HB2.out.trans (hb3.mono HB2.out.size))
  have HK := Lib.hid hk
  clear hb3 hk
  obtain ⟨E, q, hE, hq1, hq2, hq3⟩ := err_opq2 k 61
  rw [hE]
  have HE := Lib.hid (And.intro hE hq3)
  clear hE hq3
  go_upto_if 62 with fail
  clear hq1 hq2
  go_cut [12, 15] (fun _ _ wx => Below w.heap.size w wx)
  case first =>
    obtain ⟨hE, hq⟩ := HE.out
    clear HE
    subst hE
    by_cases k0 : k = 0
    · have hq1 : q = true := by rw [hq]; exact decide_eq_true k0
      subst hq1
      clear hq
      subst k0
      obtain ⟨loop', hl, hre, hrx, hsk, hee⟩ : ∃ loop, IsInts w3 xa xn xc loop ∧ roomE a0 z1 loop = 0 ∧ roomX a0 z1 loop < 0 ∧ Sunk (Arc z1) a0.toNat ∧ edgesC a0 z1 = 0 := by
        rcases HK.out with ⟨h, h'⟩ | ⟨he, loop, hl, h⟩
        · exact absurd h'.symm h
        · rcases h with ⟨h1, _, _⟩ | ⟨_, h2, _, _, h4, h5⟩
          · omega
          · exact ⟨loop, hl, by unfold roomE; rw [if_pos he]; exact h4, by unfold roomX; rw [if_pos he]; exact h5, h2, he⟩
      have C3 := Lib.hid (CR.out xa xn xc loop' w3 HB3.out hl)
      rw [hre] at C3
      obtain ⟨X', hX'⟩ : ∃ x, roomX a0 z1 loop' = x := ⟨_, rfl⟩
      rw [hX'] at C3 hrx
      have HSK := Lib.hid (And.intro hsk hee)
      clear hl hre hX' hsk hee
      go_wp2_with fail
      refine C3.out.mono ?_
      rintro e w4 ⟨rfl, hb4⟩
      have HB4 := Lib.hid (HB3.out.trans (hb4.mono HB3.out.size))
      clear hb4 C3
      go_wp2_with fail
      refine (CA.out _ HB4.out).mono ?_
      rintro e w5 ⟨ya, yn, yc, yb, ym, yd, k', rfl, hb5, hk'⟩
      have HB5 := Lib.hid (HB4.out.trans (hb5.mono HB4.out.size))
      obtain rfl : k' = 7 := by
        rcases hk' with ⟨h, _⟩ | ⟨_, ⟨_, h⟩ | ⟨h, _⟩⟩
        · exact absurd HSK.out.2 h
        · exact h
        · exact absurd HSK.out.1 h
      clear hb5 hk'
      rw [show errV 7 = .iface 53 (.int .i64 7) from rfl]
      go_wp2_with fail
      refine (Error_n 7 7 (by omega) _ (HG.out.below HB5.out)).mono ?_
      rintro e w6 ⟨rfl, hb6⟩
      have HB6 := Lib.hid (HB5.out.trans (hb6.mono HB5.out.size))
      clear hb6
      go_wp2_with fail
      go_meet
      case rel => exact HB6.out
    · have hq1 : q = false := by rw [hq]; exact decide_eq_false k0
      subst hq1
      clear hq
      have HKN := Lib.hid k0
      rw [errV_ne k0]
      have hk5 : k = 5 ∨ (k == 5) = false := by
        by_cases h : k = 5
        · exact .inl h
        · right; simpa using h
      clear k0
      go_wp2_with fail
      refine (Error_n k 5 HKN.out _ (HG.out.below HB3.out)).mono ?_
      rintro e w4 ⟨rfl, hb4⟩
      have HB4 := Lib.hid (HB3.out.trans (hb4.mono HB3.out.size))
      clear hb4
      go_wp2_with fail
      refine (CA.out _ HB4.out).mono ?_
      rintro e w5 ⟨ya, yn, yc, yb, ym, yd, k', rfl, hb5, hk'⟩
      have HB5 := Lib.hid (HB4.out.trans (hb5.mono HB4.out.size))
      have HTW := Lib.hid (prove_two (HK.out.imp id (fun ⟨h, l, _, g⟩ => ⟨h, l, g⟩)) hk' HKN.out)
      clear hb5 hk'
      go_wp2_with fail
      refine (Error_any k' 7 _ (HG.out.below HB5.out)).mono ?_
      rintro e w6 ⟨rfl, hb6⟩
      have HB6 := Lib.hid (HB5.out.trans (hb6.mono HB5.out.size))
      clear hb6
      rcases hk5 with rfl | hk5
      · have h7 : (k' == 7) = false := by have := HTW.out; simpa using this
        clear HTW
        go_wp2_with fail
        go_meet
        case rel => exact HB6.out
      · clear HTW
        go_wp2_with fail
        go_meet
        case rel => exact HB6.out
  case rest =>
    have HC := Lib.hid hcut
    have CR2 := Lib.hid (CR.out a2 n2 c2 z2 wc hcut (HP.out _ hcut))
    have HNOT := Lib.hid (prove_not (N := a0) (zs := z1) (loop := z2) (cl := z3))
    have HFC := Lib.hid (show fitsC a0 z1 z3 ≠ 0 → fitsV a0 z1 z3 = false from fun h => by unfold fitsV; rw [decide_eq_false h]; rfl)
    obtain ⟨RX, hRX⟩ : ∃ x, roomX a0 z1 z2 = x := ⟨_, rfl⟩
    obtain ⟨RE, hRE⟩ : ∃ x, roomE a0 z1 z2 = x := ⟨_, rfl⟩
    obtain ⟨FV, hFV⟩ : ∃ x, fitsV a0 z1 z3 = x := ⟨_, rfl⟩
    obtain ⟨FC, hFC⟩ : ∃ x, fitsC a0 z1 z3 = x := ⟨_, rfl⟩
    rw [hRX, hRE] at CR2
    rw [hFV, hFC] at CF HFC
    rw [hRX, hRE, hFV] at HNOT
    clear hRX hRE hFV hFC hcut HK
    have ways : RE ≠ 0 ∨ (RE = 0 ∧ FC ≠ 0) ∨ (RE = 0 ∧ FC = 0 ∧ 0 ≤ RX) ∨ (RE = 0 ∧ FC = 0 ∧ RX < 0 ∧ FV = false) := by
      by_cases h1 : RE = 0
      · by_cases h2 : FC = 0
        · by_cases h3 : 0 ≤ RX
          · exact .inr (.inr (.inl ⟨h1, h2, h3⟩))
          · exact .inr (.inr (.inr ⟨h1, h2, by omega, HNOT.out h1 (by omega)⟩))
        · exact .inr (.inl ⟨h1, h2⟩)
      · exact .inl h1
    rcases ways with h | ⟨rfl, h⟩ | ⟨rfl, rfl, h⟩ | ⟨rfl, rfl, h, rfl⟩
    · as_aux_lemma =>
        rw [errV_ne h] at CR2
        clear h HNOT
        go_wp2_with fail
        refine CR2.out.mono ?_
        rintro e w7 ⟨rfl, hb7⟩
        have HB7 := Lib.hid (HC.out.trans (hb7.mono HC.out.size))
        clear hb7
        go_wp2_with fail
        refine (CF.out _ HB7.out).mono ?_
        rintro e w8 ⟨rfl, hb8⟩
        have HB8 := Lib.hid (HB7.out.trans (hb8.mono HB7.out.size))
        clear hb8
        go_wp2_with fail
        go_ret
        exact ⟨rfl, HB8.out⟩
    · as_aux_lemma =>
        rw [errV_ne h] at CF
        clear h HNOT
        go_wp2_with fail
        refine CR2.out.mono ?_
        rintro e w7 ⟨rfl, hb7⟩
        have HB7 := Lib.hid (HC.out.trans (hb7.mono HC.out.size))
        clear hb7
        go_wp2_with fail
        refine (CF.out _ HB7.out).mono ?_
        rintro e w8 ⟨rfl, hb8⟩
        have HB8 := Lib.hid (HB7.out.trans (hb8.mono HB7.out.size))
        clear hb8
        go_wp2_with fail
        go_ret
        exact ⟨rfl, HB8.out⟩
    · as_aux_lemma =>
        clear HNOT
        go_wp2_with fail
        refine CR2.out.mono ?_
        rintro e w7 ⟨rfl, hb7⟩
        have HB7 := Lib.hid (HC.out.trans (hb7.mono HC.out.size))
        clear hb7
        go_wp2_with fail
        refine (CF.out _ HB7.out).mono ?_
        rintro e w8 ⟨rfl, hb8⟩
        have HB8 := Lib.hid (HB7.out.trans (hb8.mono HB7.out.size))
        clear hb8
        go_wp2_with fail
        go_ret
        exact ⟨rfl, HB8.out⟩
    · as_aux_lemma =>
        clear HNOT
        go_wp2_with fail
        refine CR2.out.mono ?_
        rintro e w7 ⟨rfl, hb7⟩
        have HB7 := Lib.hid (HC.out.trans (hb7.mono HC.out.size))
        clear hb7
        go_wp2_with fail
        refine (CF.out _ HB7.out).mono ?_
        rintro e w8 ⟨rfl, hb8⟩
        have HB8 := Lib.hid (HB7.out.trans (hb8.mono HB7.out.size))
        clear hb8
        go_wp2_with fail
        go_ret
        exact ⟨rfl, HB8.out⟩

set_option maxRecDepth 100000 in
theorem lifted (os : Os) (started : os.Started) (H : Type) (enc : TypeId × Value → H) :
    ReturnsInHanded {} Tryd.checked os 5 .any (fun w args => (Rows.loopsProveSpec.pre enc Tryd.prog Tryd.f5 [] false w args ∧ laidMetH Tryd.prog laidList w) ∧ sizedMet enc Tryd.prog Tryd.f5 (OpenSpec.ofChange Rows.loopsProveSpec) false w args)
      (Rows.loopsProveSpec.post enc Tryd.prog Tryd.f5 false true false false) := by
  refine returnsInHanded_of_change_and (C := Tryd.checked) (X := fun w _ => laidMetH Tryd.prog laidList w) (fun _ _ _ hh h => h.of_heap hh) own started (by kernel_rfl) Tryd.func5
    (ChangeSpec.witness_at (enc := enc) (C := Tryd.checked) (os := os) (X := fun w _ => laidMetH Tryd.prog laidList w) false (laidWorld os) #[.int .i64 0, .slice none 0 0, .slice none 0 0, .slice none 0 0] 8 rfl (by kernel_rfl) (by kernel_rfl) (by kernel_rfl) (by kernel_rfl) (by kernel_rfl) (laidWorld_met os _)) ?_
  intro W base args ds gs before hval0 hW hcnd hreach hL _
  have hval : ∀ (j : Nat) t v, Tryd.f5.params[j]? = some t → args[j]? = some v → Value.okWide Tryd.prog W .any base t v := hval0
  have hW' := hW
  obtain ⟨p, q, hA0, hV, rfl, hfz, hnd⟩ := hW
  have hA : DataW.TrodAll enc Tryd.prog W 0 (fun _ => true) true Tryd.f5.params.toList args.toList ds p := hA0
  rw [Tryd.params5] at hA hval
  obtain ⟨v0, vs0, d0, ds0, p0, q0, hargs, rfl, rfl, g0, r0⟩ := trodAll_cons hA
  obtain ⟨v1, vs1, d1, ds1, p1, q1, rfl, rfl, rfl, g1, r1⟩ := trodAll_cons r0
  obtain ⟨v2, vs2, d2, ds2, p2, q2, rfl, rfl, rfl, g2, r2⟩ := trodAll_cons r1
  obtain ⟨v3, vs3, d3, ds3, p3, q3, rfl, rfl, rfl, g3, r3⟩ := trodAll_cons r2
  obtain ⟨rfl, rfl, rfl⟩ := trodAll_nil r3
  obtain rfl : args = #[v0, v1, v2, v3] := by cases args; simp_all
  have hV2 : DataW.TrodVars enc Tryd.prog W (fun _ => true) [] gs q := hV
  obtain ⟨rfl, rfl⟩ : gs = [] ∧ q = [] := by
    cases gs with
    | nil => exact ⟨rfl, hV2⟩
    | cons g r => exact absurd hV2 (by intro h; cases h)
  obtain ⟨a0, rfl, rfl, rfl, u0⟩ := open_int Tryd.underlying3 (hval 0 3 v0 rfl rfl) g0
  have h0 := bounds_i64 u0
  have k1 := g1
  have lt1 : ∀ x ∈ p1, x.block < W.heap.size := by obtain ⟨m, hm⟩ := k1; exact DataW.trod_lt m _ _ _ hm
  have rd1 : Tryd.prog.readableRec 22 = true := by kernel_rfl
  have ls1 : 22 < Tryd.prog.types.size := of_decide_eq_true (by kernel_rfl)
  obtain ⟨a1, n1, c1, z1, rfl, h1⟩ := open_REdges (hval 1 22 v1 rfl rfl) g1
  have k2 := g2
  have lt2 : ∀ x ∈ p2, x.block < W.heap.size := by obtain ⟨m, hm⟩ := k2; exact DataW.trod_lt m _ _ _ hm
  have rd2 : Tryd.prog.readableRec 23 = true := by kernel_rfl
  have ls2 : 23 < Tryd.prog.types.size := of_decide_eq_true (by kernel_rfl)
  obtain ⟨a2, n2, c2, z2, rfl, h2⟩ := open_Ints (hval 2 23 v2 rfl rfl) g2
  have k3 := g3
  have lt3 : ∀ x ∈ p3, x.block < W.heap.size := by obtain ⟨m, hm⟩ := k3; exact DataW.trod_lt m _ _ _ hm
  have rd3 : Tryd.prog.readableRec 23 = true := by kernel_rfl
  have ls3 : 23 < Tryd.prog.types.size := of_decide_eq_true (by kernel_rfl)
  obtain ⟨a3, n3, c3, z3, rfl, h3⟩ := open_Ints (hval 3 23 v3 rfl rfl) g3
  clear hA0 hval0
  refine (walk a0 a1 n1 c1 z1 a2 n2 c2 z2 a3 n3 c3 z3 W h0 h1 h2 h3 (handle_of_laid hL)).mono fun e W' ⟨he, bel⟩ => ?_
  subst he
  exact ⟨_, rfl, _, _, _, [], _, [], hW', trodAll_mk1 (shut_bool Tryd.underlying4 _), (trodAll_cons_mk (shut_int Tryd.underlying3 u0) (trodAll_cons_mk (Below.trod laidOut rd1 ls1 k1 bel lt1) (trodAll_cons_mk (Below.trod laidOut rd2 ls2 k2 bel lt2) (trodAll_cons_mk (Below.trod laidOut rd3 ls3 k3 bel lt3) trodAll_mk0)))), rfl, bel.frame _, fun h => by cases h⟩

theorem over : Rows.loopsProveRow.holds Tryd.pinned (OpenSpec.ofChange Rows.loopsProveSpec) :=
  OpenClaim.holds_of_wide 5 Tryd.f5 rfl rfl rfl rfl rfl rfl rfl ⟨rfl, rfl, rfl, rfl, rfl⟩ rfl rfl rfl rfl rfl (by kernel_rfl) Tryd.func5 (by kernel_rfl)
    (of_decide_eq_true (by kernel_rfl)) (by unfold Func.isWrapper; rw [if_neg (of_decide_eq_false (by kernel_rfl))]; exact ⟨rfl, rfl⟩)
    (fun os started H enc _ => lifted os started H enc)

theorem card : Rows.LoopsProveCardSaid :=
  Claim7.holds_tied_plain_at .later [] [.handle] true (true, Rows.loopsProveCard.stood.harness.2) true
    over (fun _ h => by cases h) (by kernel_rfl) (fun _ h => by cases h) loopsProve_row_tie rfl ⟨rfl, rfl⟩ (by kernel_rfl) rfl
    (fun f fn hf hfn => by
      obtain rfl : f = 5 := Option.some.inj ((show Tryd.prog.funcNamed "noonmark/noonlaw1.LoopsProve" = some 5 by kernel_rfl).symm.trans hf) |>.symm
      obtain rfl : fn = Tryd.f5 := (Option.some.inj (Tryd.func5.symm.trans hfn)).symm
      exact ⟨by kernel_rfl, fun j t ht => by
        rw [Tryd.params5] at ht
        exact noStandIn (ps := #[3, 22, 23, 23]) (by kernel_rfl) ht⟩)
    (by kernel_rfl)

#print axioms card
end Go.Proofs.YtccjomkgfadidaaDoor.lLoopsProve
