/- Proved: the tied card of noonlaw1.TreeWider: it answers true for every input and leaves its arguments as they were. The card's own condition: errors.errorType holds what the program's text lays there. -/
import Derived.Test.YtepfbgbdcljlmaaDoorDoor
import Derived.Test.YtepfbgbdcljlmaaDoorTreeS
import Derived.Test.YtepfbgbdcljlmaaDoorWiderP
import Derived.Test.YtepfbgbdcljlmaaDoorBetween
import Derived.Test.YtepfbgbdcljlmaaDoorFits
import Derived.Test.YtepfbgbdcljlmaaDoorFitP
import Derived.Deep.DeepCutAuto
import Derived.Deep.CutBlock
namespace Go.Proofs.YtepfbgbdcljlmaaDoor.lTreeWider
open Go.ChangeShapes Go.WideShapes Go.ChangeAt Go.RowKit
set_option linter.unusedVariables false
set_option linter.unusedSimpArgs false
theorem tree_Spans_none (N : Int) (A : Option Addr) (n c : Nat) (zs : List REdge) (R : Int) (w : World) (hz : IsRecs w REdge.cells REdge.ok 4 A n c zs) (ht : treeC N zs R ≠ 0) :
    Calls Tryd.prog 12 #[.int .i64 N, .slice A n c, .int .i64 R] w fun e w' => SpansP w w' e [] [] (treeC N zs R) := by
  have hm1 := hz.2.1
  have hm2 := hz.2.2.1
  unfold maxLen at hm2
  have C := Lib.hid (tree_ready N A n c zs R w hz)
  rw [errV_ne ht] at C
  have HT := Lib.hid ht
  clear hz ht
  go_enter Tryd.func12, Tryd.ntmps12
  go_wp2_with fail
  refine C.out.mono ?_
  rintro e w1 ⟨rfl, hb1⟩
  go_wp2_with fail
  refine bodyPost_ret (v := .tuple #[.slice none 0 0, .slice none 0 0, .iface 53 (.int .i64 (treeC N zs R))]) (by simp [results, Tryd.results12, go_sem]) rfl ?_
  exact ⟨none, 0, 0, none, 0, 0, by rw [errV_ne HT.out], recs_nil _ _ _ _, bools_nil _, hb1⟩
theorem blk_recs_tw {E : Type} (cells : E → List Value) (ok : E → Prop) (k : Nat) (hk : ∀ z, (cells z).length = k) {w : World} {g : Nat} {t : TypeId} {zs : List E} {cs : Array Value} (h : Blk w g t cs) (hc : cs = (zs.flatMap cells).toArray) {n : Nat} (hl : zs.length = n) (hm : n ≤ maxLen) (hok : ∀ z ∈ zs, ok z) : IsRecs w cells ok k (some ⟨g, 0, none⟩) n n zs := by
  refine ⟨hl, Nat.le_refl _, hm, hok, fun _ => ⟨g, 0, rfl, h.lt, fun i z hz j u hj => ?_⟩⟩
  have := flat_get cells k hk zs i j z u hz hj
  rw [h.cell, hc, List.getElem?_toArray, Nat.zero_add]
  exact this
def oneT : List REdge := [⟨1, 0, 5, 6⟩]
theorem oneT_ok : edgesC 2 oneT = 0 := by decide
theorem oneT_sp : spD 2 0 oneT = some ([⟨0, 0⟩, ⟨-6, -5⟩], [true, true]) := by rfl
/-- what the tree and all edges tell of one node. -/
theorem wide_at {N R i : Nat} {zs : List REdge} {x : RSpan} {c : Int} {b : Bool} {s : RSpan} (h : BetS N zs R i x c) (hc : edgesC N zs = 0) (hR : R < N) (hi : i < N)
    (hb : (b = true ∧ SaidW zs R i s) ∨ (b = false ∧ ∀ r c, ¬ Way (Arc zs) R i r c)) : (c ≠ 0 ∧ c ≠ 5) ∨ (c = 5 ∧ b = false) ∨ (c = 0 ∧ b = true ∧ s.lo ≤ x.lo ∧ x.hi ≤ s.hi) := by
  rcases h with ⟨h, _⟩ | ⟨_, h1, h2, h3⟩ | ⟨_, h1, h⟩
  · exact absurd hc h
  · left; omega
  · simp only [Int.toNat_natCast] at h
    rcases h with ⟨_, h, _⟩ | ⟨hs, D, hD, h⟩
    · left; omega
    · rcases h with ⟨_, h, _⟩ | ⟨_, h⟩
      · left; omega
      · right
        rcases h with ⟨h1, h2, _⟩ | ⟨h1, h2, h3⟩
        · left
          refine ⟨h2, ?_⟩
          rcases hb with ⟨_, _, ⟨r, g⟩, _⟩ | ⟨g, _⟩
          · rcases hD R i hR hi with ⟨_, q⟩ | ⟨q, _⟩
            · exact absurd g (q _ _)
            · exact absurd (of_decide_eq_true q) h1
          · exact g
        · right
          rcases hD R i hR hi with ⟨q, _⟩ | ⟨_, q⟩
          · exact absurd h1 (of_decide_eq_false q)
          · rcases hb with ⟨g1, _, ⟨r, g2⟩, ⟨r', g3⟩⟩ | ⟨_, g⟩
            · refine ⟨h2, g1, ?_, ?_⟩
              · rw [h3]
                rcases hD i R hi hR with ⟨_, p⟩ | ⟨_, p⟩
                · exact absurd g3 (p _ _)
                · have := p.2 _ _ g3
                  show s.lo ≤ -(D i R)
                  omega
              · rw [h3]
                exact q.2 _ _ g2
            · obtain ⟨r, q1⟩ := q.1
              exact absurd q1 (g _ _)
theorem said_has {N : Int} {R i : Nat} {zs : List REdge} {s : RSpan} {cl : List Int} (h : SaidW zs R i s) (hf : fitsV N zs cl = true) : hasB s.lo s.hi (cl.getD i 0 - cl.getD R 0) = true := by
  obtain ⟨h1, ⟨r, h2⟩, ⟨r', h3⟩⟩ := h
  have a := way_pot (p := fun k => cl.getD k 0) (fit_arc hf) h2
  have b := way_pot (p := fun k => cl.getD k 0) (fit_arc hf) h3
  unfold hasB
  simp only [h1, Bool.true_and, Bool.and_eq_true, decide_eq_true_eq]
  have a : cl.getD i 0 - cl.getD R 0 ≤ s.hi := a
  have b : cl.getD R 0 - cl.getD i 0 ≤ -s.lo := b
  omega
theorem fitsV_0 {n : Int} {zs : List REdge} {cl : List Int} (h : fitsV n zs cl = true) : fitsC n zs cl = 0 ∧ (cl.length : Int) = n ∧ ∀ z ∈ cl, timeB z = true := by
  unfold fitsV at h
  simp only [Bool.and_eq_true, decide_eq_true_eq] at h
  have h := h.1
  refine ⟨h, ?_⟩
  unfold fitsC at h
  split at h
  · split at h
    · rename_i h1
      refine ⟨h1, fun z hz => ?_⟩
      rcases okC_cases (cl.all timeB) with ⟨_, q⟩ | ⟨q, _⟩
      · exact List.all_eq_true.1 q z hz
      · omega
    · omega
  · rename_i h1; exact absurd h h1
set_option maxRecDepth 100000 in
set_option maxHeartbeats 32000000 in
theorem walk (a0 : Int) (a1 : Option Addr) (n1 c1 : Nat) (z1 : List REdge) (a2 : Int) (a3 : Option Addr) (n3 c3 : Nat) (z3 : List Int) (w : World) (h0 : -9223372036854775808 ≤ a0 ∧ a0 ≤ 9223372036854775807) (h1 : IsRecs w REdge.cells REdge.ok 4 a1 n1 c1 z1) (h2 : -9223372036854775808 ≤ a2 ∧ a2 ≤ 9223372036854775807) (h3 : IsInts w a3 n3 c3 z3) (hg : HandleAt w) :
    Calls Tryd.prog 5 #[.int .i64 a0, .slice a1 n1 c1, .int .i64 a2, .slice a3 n3 c3] w fun e w' => e = .returned (.bool true) ∧ Below w.heap.size w w' := by
  have HG := Lib.hid hg
  have hm1 := h1.2.1
  have hm2 := h1.2.2.1
  have hm3 := h3.2.1
  have hm4 := h3.2.2.1
  unfold maxLen at hm2 hm4
  have CF := Lib.hid (fun w' (hb : Below w.heap.size w w') => bounds_Fits a0 a1 n1 c1 z1 a3 n3 c3 z3 w' (h1.below hb) (h3.below hb))
  have CB := Lib.hid (fun a b w' (hb : Below w.heap.size w w') => bounds_Between a0 a1 n1 c1 z1 a b w' (h1.below hb))
  have HZ := Lib.hid h1
  have HP := Lib.hid h3
  have ONE := Lib.hid (show ∀ N R w', treeC a0 z1 a2 = 0 → a0 = (N : Nat) → a2 = (R : Nat) → Below w.heap.size w w' → Calls Tryd.prog 12 #[.int .i64 N, .slice a1 n1 c1, .int .i64 R] w' fun e w'' => (∀ o b, spD N R z1 = some (o, b) → SpansP w' w'' e o b 0) ∧ (spD N R z1 = none → SpansP w' w'' e [] [] 1) from
    fun N R w' ht e1 e2 hb => by
      obtain ⟨t1, t2, t3⟩ := treeC_0 ht
      exact tree_Spans_ok N R a1 n1 c1 z1 w' (h1.below hb) (by rw [← e1]; exact t1) (by omega))
  have NON := Lib.hid (fun w' (hb : Below w.heap.size w w') ht => tree_Spans_none a0 a1 n1 c1 z1 a2 w' (h1.below hb) ht)
  clear hg h0 h1 h3
  go_enter Tryd.func5, Tryd.ntmps5
  go_wp2_with fail
  have IR := blk_recs_tw REdge.cells REdge.ok 4 (fun _ => rfl) (zs := oneT) (Blk.new w 26 #[.int .i64 1, .int .i64 0, .int .i64 5, .int .i64 6]) rfl (n := 1) rfl (by unfold maxLen; omega) (by
    intro z hz
    simp [oneT] at hz
    subst hz; unfold REdge.ok i64B; simp only []; omega)
  have HB0 := Lib.hid (show Below w.heap.size w (w.alloc (.cells #[.int .i64 1, .int .i64 0, .int .i64 5, .int .i64 6] 26)) from (Below.refl _ _).alloc (Nat.le_refl _) _)
  have C0 := Lib.hid (tree_Spans_ok 2 0 _ 1 1 oneT _ IR oneT_ok (by omega))
  clear IR
  refine C0.out.mono ?_
  rintro e w1 ⟨hsp, _⟩
  obtain ⟨fa, fn, fc, ga, gn, gc, rfl, hf1, hf2, hb1⟩ := hsp _ _ oneT_sp
  have hfn : fn = 2 := hf1.1.symm
  have hgn : gn = 2 := hf2.1.symm
  subst hfn
  subst hgn
  have hfc := hf1.2.1
  have hfm := hf1.2.2.1
  have hgc := hf2.2.1
  have hgm := hf2.2.2.1
  unfold maxLen at hfm hgm
  obtain ⟨fb, fo, rfl, hfl, hfx⟩ := hf1.2.2.2.2 (by omega)
  obtain ⟨gb, go, rfl, hgl, hgx⟩ := hf2.2.2.2.2 (by omega)
  have q0 : w1.cell? ⟨fb, fo + 2, none⟩ = some (.int .i64 (-6)) := hfx 1 _ rfl 0 _ rfl
  have q1 : w1.cell? ⟨fb, fo + 2 + 1, none⟩ = some (.int .i64 (-5)) := hfx 1 _ rfl 1 _ rfl
  have q2 : w1.cell? ⟨gb, go + 1, none⟩ = some (.bool true) := hgx 1 _ rfl 0 _ rfl
  have HB1 := Lib.hid (HB0.out.trans (hb1.mono HB0.out.size))
  clear hsp hf1 hf2 hb1 hfx hgx C0 HB0
  go_wp2_with fail
  by_cases ht : treeC a0 z1 a2 = 0
  · obtain ⟨t1, t2, t3⟩ := treeC_0 ht
    obtain ⟨d4, d5, d6, d7⟩ := edgesC_0 t1
    obtain ⟨N, rfl⟩ := Int.eq_ofNat_of_zero_le (show 0 ≤ a0 by omega)
    obtain ⟨R, rfl⟩ := Int.eq_ofNat_of_zero_le t2
    simp only [Int.toNat_natCast] at d7
    have hRN : R < N := by omega
    have CS := Lib.hid (ONE.out N R w1 ht rfl rfl HB1.out)
    have HSP := Lib.hid (fun o b (h : spD N R z1 = some (o, b)) => spD_w hRN d7 h)
    have HC0 := Lib.hid t1
    have FVZ := Lib.hid (fitsV_0 (n := N) (zs := z1) (cl := z3))
    have SHS := Lib.hid (fun i s (h : SaidW z1 R i s) hf => said_has (N := N) (cl := z3) h hf)
    obtain ⟨FV, hFV⟩ : ∃ v, fitsV N z1 z3 = v := ⟨_, rfl⟩
    obtain ⟨FC, hFC⟩ : ∃ v, fitsC N z1 z3 = v := ⟨_, rfl⟩
    rw [hFV, hFC] at CF FVZ
    rw [hFV] at SHS
    clear ht t1 d7 ONE NON hFV hFC q0 q1 q2 hfl hgl
    obtain ⟨sp, hsp⟩ : ∃ sp, spD N R z1 = sp := ⟨_, rfl⟩
    rw [hsp] at CS HSP
    clear hsp
    refine CS.out.mono ?_
    rintro e w2 ⟨h1, h2⟩
    rcases sp with _ | ⟨o, b⟩
    · obtain ⟨A, n, k, B, m, d, rfl, _, _, hb2⟩ := h2 rfl
      have HB2 := Lib.hid (HB1.out.trans (hb2.mono HB1.out.size))
      clear h1 h2 hb2
      rw [show errV 1 = .iface 53 (.int .i64 1) from rfl]
      go_wp2_with fail
      go_ret
      exact ⟨rfl, HB2.out⟩
    · obtain ⟨A, n, k, B, m, d, rfl, ho, hbl, hb2⟩ := h1 o b rfl
      obtain ⟨so, sb, hall⟩ := HSP.out o b rfl
      obtain rfl : N = n := by have := ho.1; omega
      obtain rfl : N = m := by have := hbl.1; omega
      have HO := Lib.hid ho
      have HBL := Lib.hid hbl
      have HALL := Lib.hid hall
      have ho2 := ho.2.1
      have ho3 := ho.2.2.1
      have hb3 := hbl.2.1
      have hb4 := hbl.2.2.1
      unfold maxLen at ho3 hb4
      have HB2 := Lib.hid (HB1.out.trans (hb2.mono HB1.out.size))
      clear h1 h2 hb2 ho hbl hall HSP CS so sb HB1
      go_wp2_with fail
      refine (CF.out _ HB2.out).mono ?_
      rintro e w3 ⟨rfl, hb3'⟩
      have HB3 := Lib.hid (HB2.out.trans (hb3'.mono HB2.out.size))
      have HO := Lib.hid (HO.out.below hb3')
      have HBL := Lib.hid (HBL.out.below hb3')
      clear hb3'
      go_upto_region 11 with fail
      go_cut [17, 18] (fun _ u wx => u = .bool FV ∧ w3 = wx)
      case first =>
        as_aux_lemma =>
          cases FV
          · by_cases f0 : FC = 0
            · subst f0
              go_wp2_with fail
              go_meet
              case rel => exact ⟨rfl, rfl⟩
            · rw [errV_ne f0]
              clear f0
              go_wp2_with fail
              go_meet
              case rel => exact ⟨rfl, rfl⟩
          · obtain ⟨f1, f2, _⟩ := FVZ.out rfl
            subst f1
            obtain rfl : N = n3 := by have := HP.out.1; omega
            go_wp2_with fail
            go_meet
            case rel => exact ⟨rfl, rfl⟩
      case rest =>
        obtain ⟨rfl, rfl⟩ := hcut
        go_wp2_with fail
        go_loopw [19] (fun iv wx => ∃ i : Nat, iv = .int .i64 i ∧ i ≤ N ∧ Below w3.heap.size w3 wx) (fun iv _ => N - (intOf iv).toNat)
        case atStart => exact ⟨0, rfl, by omega, Below.refl _ _⟩
        case round =>
          obtain ⟨i, rfl, hi, hB⟩ := hrel
          have HB := Lib.hid hB
          have HBW := Lib.hid (HB3.out.trans (hB.mono HB3.out.size))
          clear hB
          by_cases hin : i < N
          · go_wp2_with fail
            refine (CB.out _ _ _ HBW.out).mono ?_
            rintro e w5 ⟨x, c, rfl, hbet, hb5⟩
            obtain ⟨-, -, hall⟩ : True ∧ True ∧ _ := ⟨trivial, trivial, HALL.out i hin⟩
            obtain ⟨bi, s, hbi, hsi, hw⟩ : ∃ bi s, b[i]? = some bi ∧ o[i]? = some s ∧ ((bi = true ∧ SaidW z1 R i s) ∨ (bi = false ∧ ∀ r c, ¬ Way (Arc z1) R i r c)) := by
              rcases hall with ⟨h1, s, h2, h3⟩ | ⟨h1, h2⟩
              · exact ⟨true, s, h1, h2, .inl ⟨rfl, h3⟩⟩
              · exact ⟨false, o[i]'(by have := HO.out.1; omega), h1, List.getElem?_eq_getElem _, .inr ⟨rfl, h2⟩⟩
            have HWA := Lib.hid (wide_at hbet HC0.out hRN hin hw)
            have HW := Lib.hid hw
            have HB5 := Lib.hid (HB.out.trans (hb5.mono HB.out.size))
            have HBW5 := Lib.hid (HBW.out.trans (hb5.mono HBW.out.size))
            have hz5 := hb5.size
            have hz5w := HBW5.out.size
            have hz53 := HB5.out.size
            clear hbet hb5 hall hw
            have X0 := Lib.hid (show (w5.alloc (.cells #[.int .i64 x.lo, .int .i64 x.hi] 24)).cell? ⟨w5.heap.size, 0, none⟩ = some (.int .i64 x.lo) by simp)
            have X1 := Lib.hid (show (w5.alloc (.cells #[.int .i64 x.lo, .int .i64 x.hi] 24)).cell? ⟨w5.heap.size, 1, none⟩ = some (.int .i64 x.hi) by simp)
            have HBA5 := Lib.hid (HBW5.out.alloc hz5w (.cells #[.int .i64 x.lo, .int .i64 x.hi] 24))
            have HBA3 := Lib.hid (HB5.out.alloc hz53 (.cells #[.int .i64 x.lo, .int .i64 x.hi] 24))
            rcases HWA.out with hc | ⟨rfl, rfl⟩ | ⟨rfl, rfl, hl1, hl2⟩
            · as_aux_lemma =>
                have hc5 : (c == 5) = false := by simpa using hc.2
                have ERR := Lib.hid (errV_ne hc.1)
                have HCN := Lib.hid hc
                rw [ERR.out]
                clear hc
                go_wp2_with fail
                refine (Error_n c 5 HCN.out.1 _ (HG.out.below HBA5.out)).mono ?_
                rintro e w6 ⟨rfl, hb6⟩
                have HBW6 := Lib.hid (HBA5.out.trans (hb6.mono HBA5.out.size))
                have HB6 := Lib.hid (HBA3.out.trans (hb6.mono HBA3.out.size))
                clear hb6
                go_wp2_with fail
                go_roundw
                case rel => exact ⟨i + 1, by go_num, by omega, HB6.out⟩
                case measure => simp [intOf]; omega
            · as_aux_lemma =>
                rw [show errV 5 = .iface 53 (.int .i64 5) from rfl]
                go_wp2_with fail
                refine (Error_n 5 5 (by omega) _ (HG.out.below HBA5.out)).mono ?_
                rintro e w6 ⟨rfl, hb6⟩
                have x0 := (hb6.cell (p := ⟨w5.heap.size, 0, none⟩) (by simp)).trans X0.out
                have x1 := (hb6.cell (p := ⟨w5.heap.size, 1, none⟩) (by simp)).trans X1.out
                have HBW6 := Lib.hid (HBA5.out.trans (hb6.mono HBA5.out.size))
                have HB6 := Lib.hid (HBA3.out.trans (hb6.mono HBA3.out.size))
                have hz6 : w5.heap.size < w6.heap.size := by have := hb6.size; simp at this; omega
                obtain ⟨ob, oo, hA, hol, hox⟩ := (HO.out.below HB6.out).2.2.2.2 (by omega)
                obtain ⟨bb, bo, hBB, hbl, hbx⟩ := (HBL.out.below HB6.out).2.2.2.2 (by omega)
                subst hA
                subst hBB
                have s0 : w6.cell? ⟨ob, oo + i * 2, none⟩ = some (.int .i64 s.lo) := hox i s hsi 0 _ rfl
                have s1 : w6.cell? ⟨ob, oo + i * 2 + 1, none⟩ = some (.int .i64 s.hi) := hox i s hsi 1 _ rfl
                have s2 : w6.cell? ⟨bb, bo + i, none⟩ = some (.bool false) := by have := hbx i false hbi 0 _ rfl; simpa using this
                clear hb6 hox hbx
                have k0 : (0 : Int) ≤ (i : Int) := by omega
                have k1 : (i : Int) < (N : Int) := by omega

                have HF := Lib.hid (show FV = true ∨ FV = false by cases FV <;> simp)
                clear hbi hsi
                go_wp2_with fail
                go_quiet (fail)
                rcases HF.out with rfl | rfl
                all_goals
                  go_wp2_with fail
                  go_roundw
                  case rel => exact ⟨i + 1, by go_num, by omega, below_drewN HB6.out _⟩
                  case measure => simp [intOf]; omega
            · as_aux_lemma =>
                go_wp2_with fail
                refine (Error_nil 5 _ (HG.out.below HBA5.out)).mono ?_
                rintro e w6 ⟨rfl, hb6⟩
                have x0 := (hb6.cell (p := ⟨w5.heap.size, 0, none⟩) (by simp)).trans X0.out
                have x1 := (hb6.cell (p := ⟨w5.heap.size, 1, none⟩) (by simp)).trans X1.out
                have HBW6 := Lib.hid (HBA5.out.trans (hb6.mono HBA5.out.size))
                have HB6 := Lib.hid (HBA3.out.trans (hb6.mono HBA3.out.size))
                have hz6 : w5.heap.size < w6.heap.size := by have := hb6.size; simp at this; omega
                obtain ⟨ob, oo, hA, hol, hox⟩ := (HO.out.below HB6.out).2.2.2.2 (by omega)
                obtain ⟨bb, bo, hBB, hbl, hbx⟩ := (HBL.out.below HB6.out).2.2.2.2 (by omega)
                subst hA
                subst hBB
                have s0 : w6.cell? ⟨ob, oo + i * 2, none⟩ = some (.int .i64 s.lo) := hox i s hsi 0 _ rfl
                have s1 : w6.cell? ⟨ob, oo + i * 2 + 1, none⟩ = some (.int .i64 s.hi) := hox i s hsi 1 _ rfl
                have s2 : w6.cell? ⟨bb, bo + i, none⟩ = some (.bool true) := by have := hbx i true hbi 0 _ rfl; simpa using this
                clear hb6 hox hbx
                have k0 : (0 : Int) ≤ (i : Int) := by omega
                have k1 : (i : Int) < (N : Int) := by omega

                have l1 : decide (x.lo < s.lo) = false := decide_eq_false (by omega)
                have l2 : decide (s.hi < x.hi) = false := decide_eq_false (by omega)
                clear hbi hsi
                have HSAID := Lib.hid (show SaidW z1 R i s by
                  rcases HW.out with ⟨_, h⟩ | ⟨h, _⟩
                  · exact h
                  · cases h)
                have HF := Lib.hid (show FV = true ∨ FV = false by cases FV <;> simp)
                go_upto_region 18 with fail
                go_cut [165] (fun u wx => u = .bool false ∧ Below w6.heap.size w6 wx)
                case first =>
                  as_aux_lemma =>
                    go_quiet (fail)
                    go_wp2_with fail
                    go_meet
                    case rel => exact ⟨rfl, below_drewN (Below.refl _ _) _⟩
                case rest =>
                  obtain ⟨rfl, hbc⟩ := hcut
                  obtain ⟨w7, rfl⟩ : ∃ w7, w7 = wc := ⟨_, rfl⟩
                  have s0 := (hbc.cell (p := ⟨ob, oo + i * 2, none⟩) hol).trans s0
                  have s1 := (hbc.cell (p := ⟨ob, oo + i * 2 + 1, none⟩) hol).trans s1
                  have s2 := (hbc.cell (p := ⟨bb, bo + i, none⟩) hbl).trans s2
                  have hol7 : ob < w7.heap.size := Nat.lt_of_lt_of_le hol hbc.size
                  have HBW7 := Lib.hid (HBW6.out.trans (hbc.mono HBW6.out.size))
                  have HB7 := Lib.hid (HB6.out.trans (hbc.mono HB6.out.size))
                  clear hbc x0 x1 l1 l2
                  rcases HF.out with rfl | rfl
                  · obtain ⟨f1, f2, f3⟩ := FVZ.out rfl
                    obtain rfl : N = n3 := by have := HP.out.1; omega
                    have HTM := Lib.hid f3
                    obtain ⟨pb, po, rfl, hpl, hpx⟩ := (HP.out.below HBW7.out).2.2.2.2 (by omega)
                    obtain ⟨ci, hci⟩ : ∃ v, z3[i]? = some v := ⟨_, List.getElem?_eq_getElem (by have := HP.out.1; omega)⟩
                    obtain ⟨cr, hcr⟩ : ∃ v, z3[R]? = some v := ⟨_, List.getElem?_eq_getElem (by have := HP.out.1; omega)⟩
                    have p0 : w7.cell? ⟨pb, po + i, none⟩ = some (.int .i64 ci) := by have := hpx i ci hci 0 _ rfl; simpa using this
                    have p1 : w7.cell? ⟨pb, po + R, none⟩ = some (.int .i64 cr) := by have := hpx R cr hcr 0 _ rfl; simpa using this
                    have ti := timeB_iff.1 (HTM.out ci (List.mem_of_getElem? hci))
                    have tr := timeB_iff.1 (HTM.out cr (List.mem_of_getElem? hcr))
                    have hh := SHS.out i s HSAID.out rfl
                    rw [show z3.getD i 0 = ci by simp [List.getD, hci], show z3.getD R 0 = cr by simp [List.getD, hcr]] at hh
                    have hr := HSAID.out.1
                    have CH := Lib.hid (fun w => span_Has s.lo s.hi (ci - cr) w)
                    rw [hh, hr] at CH
                    have k2 : (0 : Int) ≤ (R : Int) := by omega
                    have k3 : (R : Int) < (N : Int) := by omega
                    have Y2 := Lib.hid (IntWalk.i64_in (ci - cr) (by omega))
                    clear f1 f2 f3 hpx hci hcr hh hr ti tr
                    go_upto_region 21 with fail
                    have y2 := Y2.out
                    go_cut [23, 24] (fun u v wx => u = .bool true ∧ v = .nilIface ∧ Below w7.heap.size w7 wx)
                    case first =>
                      as_aux_lemma =>
                        go_region_held3 (fun w' => w'.cell? ⟨ob, oo + i * 2, none⟩ = some (.int .i64 s.lo) ∧ w'.cell? ⟨ob, oo + i * 2 + 1, none⟩ = some (.int .i64 s.hi) ∧ w'.cell? ⟨pb, po + i, none⟩ = some (.int .i64 ci) ∧ w'.cell? ⟨pb, po + R, none⟩ = some (.int .i64 cr)) (((repeat' apply And.intro) <;> exact (Below.cell (B := (w7).heap.size) (w := w7) (by repeat (first | with_reducible exact Below.refl _ _ | (with_reducible refine Below.alloc ?_ (by first | omega | (simp; done) | (simp; omega)) _) | (with_reducible refine Below.setCell ?_ (by first | omega | (simp; done) | (simp; omega)) _) | (with_reducible refine Below.drew ?_) | (with_reducible refine below_drewN ?_ _) | (with_reducible assumption) | (with_reducible refine bel_step (by with_reducible assumption) ?_ (by first | omega | (simp; done) | (simp; omega))))) (by first | omega | (simp; done) | (simp; omega))).trans (by assumption)))
                          (first | (go_at_call 17; (with_reducible refine (CH.out _).mono ?_); rintro e w8 ⟨rfl, hb8⟩; obtain ⟨hc8, hf8⟩ := bcell hb8; have hz8 := hb8.size; (try simp at hz8)))
                        all_goals
                          clear y2
                          go_wp2_with fail
                          go_meet
                          case rel => exact ⟨rfl, rfl, (by repeat (first | with_reducible exact Below.refl _ _ | (with_reducible refine Below.alloc ?_ (by first | omega | (simp; done) | (simp; omega)) _) | (with_reducible refine Below.setCell ?_ (by first | omega | (simp; done) | (simp; omega)) _) | (with_reducible refine Below.drew ?_) | (with_reducible refine below_drewN ?_ _) | (with_reducible assumption) | (with_reducible refine bel_step (by with_reducible assumption) ?_ (by first | omega | (simp; done) | (simp; omega)))))⟩
                    case rest =>
                      obtain ⟨rfl, rfl, hbd⟩ := hcut
                      have HB8 := Lib.hid (HB7.out.trans (hbd.mono HB7.out.size))
                      clear hbd y2
                      go_wp2_with fail
                      go_roundw
                      case rel => exact ⟨i + 1, by go_num, by omega, HB8.out⟩
                      case measure => simp [intOf]; omega
                  · go_wp2_with fail
                    go_roundw
                    case rel => exact ⟨i + 1, by go_num, by omega, HB7.out⟩
                    case measure => simp [intOf]; omega
          · go_wp2_with fail
            go_ret
            exact ⟨rfl, HBW.out⟩
  · have CS := Lib.hid (NON.out w1 HB1.out ht)
    have HT := Lib.hid (errV_ne ht)
    clear ONE NON q0 q1 q2 hfl hgl
    refine CS.out.mono ?_
    rintro e w2 ⟨A, n, k, B, m, d, rfl, _, _, hb2⟩
    have HB2 := Lib.hid (HB1.out.trans (hb2.mono HB1.out.size))
    rw [HT.out]
    clear hb2 ht HT
    go_wp2_with fail
    go_ret
    exact ⟨rfl, HB2.out⟩

set_option maxRecDepth 100000 in
theorem lifted (os : Os) (started : os.Started) (H : Type) (enc : TypeId × Value → H) :
    ReturnsInHanded {} Tryd.checked os 5 .any (fun w args => (Rows.treeWiderSpec.pre enc Tryd.prog Tryd.f5 [] false w args ∧ laidMetH Tryd.prog laidList w) ∧ sizedMet enc Tryd.prog Tryd.f5 (OpenSpec.ofChange Rows.treeWiderSpec) false w args)
      (Rows.treeWiderSpec.post enc Tryd.prog Tryd.f5 false true false false) := by
  refine returnsInHanded_of_change_and (C := Tryd.checked) (X := fun w _ => laidMetH Tryd.prog laidList w) (fun _ _ _ hh h => h.of_heap hh) own started (by kernel_rfl) Tryd.func5
    (ChangeSpec.witness_at (enc := enc) (C := Tryd.checked) (os := os) (X := fun w _ => laidMetH Tryd.prog laidList w) false (laidWorld os) #[.int .i64 0, .slice none 0 0, .int .i64 0, .slice none 0 0] 8 rfl (by kernel_rfl) (by kernel_rfl) (by kernel_rfl) (by kernel_rfl) (by kernel_rfl) (laidWorld_met os _)) ?_
  intro W base args ds gs before hval0 hW hcnd hreach hL _
  have hval : ∀ (j : Nat) t v, Tryd.f5.params[j]? = some t → args[j]? = some v → Value.okWide Tryd.prog W .any base t v := hval0
  have hW' := hW
  obtain ⟨p, q, hA0, hV, rfl, hfz, hnd⟩ := hW
  have hA : DataW.TrodAll enc Tryd.prog W 0 (fun _ => true) true Tryd.f5.params.toList args.toList ds p := hA0
  rw [Tryd.params5] at hA hval
  obtain ⟨v0, vs0, d0, ds0, p0, q0, hargs, rfl, rfl, g0, r0⟩ := trodAll_cons hA
  obtain ⟨v1, vs1, d1, ds1, p1, q1, rfl, rfl, rfl, g1, r1⟩ := trodAll_cons r0
  obtain ⟨v2, vs2, d2, ds2, p2, q2, rfl, rfl, rfl, g2, r2⟩ := trodAll_cons r1
  obtain ⟨v3, vs3, d3, ds3, p3, q3, rfl, rfl, rfl, g3, r3⟩ := trodAll_cons r2
  obtain ⟨rfl, rfl, rfl⟩ := trodAll_nil r3
  obtain rfl : args = #[v0, v1, v2, v3] := by cases args; simp_all
  have hV2 : DataW.TrodVars enc Tryd.prog W (fun _ => true) [] gs q := hV
  obtain ⟨rfl, rfl⟩ : gs = [] ∧ q = [] := by
    cases gs with
    | nil => exact ⟨rfl, hV2⟩
    | cons g r => exact absurd hV2 (by intro h; cases h)
  obtain ⟨a0, rfl, rfl, rfl, u0⟩ := open_int Tryd.underlying3 (hval 0 3 v0 rfl rfl) g0
  have h0 := bounds_i64 u0
  have k1 := g1
  have lt1 : ∀ x ∈ p1, x.block < W.heap.size := by obtain ⟨m, hm⟩ := k1; exact DataW.trod_lt m _ _ _ hm
  have rd1 : Tryd.prog.readableRec 22 = true := by kernel_rfl
  have ls1 : 22 < Tryd.prog.types.size := of_decide_eq_true (by kernel_rfl)
  obtain ⟨a1, n1, c1, z1, rfl, h1⟩ := open_REdges (hval 1 22 v1 rfl rfl) g1
  obtain ⟨a2, rfl, rfl, rfl, u2⟩ := open_int Tryd.underlying3 (hval 2 3 v2 rfl rfl) g2
  have h2 := bounds_i64 u2
  have k3 := g3
  have lt3 : ∀ x ∈ p3, x.block < W.heap.size := by obtain ⟨m, hm⟩ := k3; exact DataW.trod_lt m _ _ _ hm
  have rd3 : Tryd.prog.readableRec 27 = true := by kernel_rfl
  have ls3 : 27 < Tryd.prog.types.size := of_decide_eq_true (by kernel_rfl)
  obtain ⟨a3, n3, c3, z3, rfl, h3⟩ := open_Ints (hval 3 27 v3 rfl rfl) g3
  clear hA0 hval0
  refine (walk a0 a1 n1 c1 z1 a2 a3 n3 c3 z3 W h0 h1 h2 h3 (handle_of_laid hL)).mono fun e W' ⟨he, bel⟩ => ?_
  subst he
  exact ⟨_, rfl, _, _, _, [], _, [], hW', trodAll_mk1 (shut_bool Tryd.underlying4 _), (trodAll_cons_mk (shut_int Tryd.underlying3 u0) (trodAll_cons_mk (Below.trod laidOut rd1 ls1 k1 bel lt1) (trodAll_cons_mk (shut_int Tryd.underlying3 u2) (trodAll_cons_mk (Below.trod laidOut rd3 ls3 k3 bel lt3) trodAll_mk0)))), rfl, bel.frame _, fun h => by cases h⟩

theorem over : Rows.treeWiderRow.holds Tryd.pinned (OpenSpec.ofChange Rows.treeWiderSpec) :=
  OpenClaim.holds_of_wide 5 Tryd.f5 rfl rfl rfl rfl rfl rfl rfl ⟨rfl, rfl, rfl, rfl, rfl⟩ rfl rfl rfl rfl rfl (by kernel_rfl) Tryd.func5 (by kernel_rfl)
    (of_decide_eq_true (by kernel_rfl)) (by unfold Func.isWrapper; rw [if_neg (of_decide_eq_false (by kernel_rfl))]; exact ⟨rfl, rfl⟩)
    (fun os started H enc _ => lifted os started H enc)

theorem card : Rows.TreeWiderCardSaid :=
  Claim7.holds_tied_plain_at .later [] [.handle] true (true, Rows.treeWiderCard.stood.harness.2) true
    over (fun _ h => by cases h) (by kernel_rfl) (fun _ h => by cases h) treeWider_row_tie rfl ⟨rfl, rfl⟩ (by kernel_rfl) rfl
    (fun f fn hf hfn => by
      obtain rfl : f = 5 := Option.some.inj ((show Tryd.prog.funcNamed "noonmark/noonlaw1.TreeWider" = some 5 by kernel_rfl).symm.trans hf) |>.symm
      obtain rfl : fn = Tryd.f5 := (Option.some.inj (Tryd.func5.symm.trans hfn)).symm
      exact ⟨by kernel_rfl, fun j t ht => by
        rw [Tryd.params5] at ht
        exact noStandIn (ps := #[3, 22, 3, 27]) (by kernel_rfl) ht⟩)
    (by kernel_rfl)

#print axioms card
end Go.Proofs.YtepfbgbdcljlmaaDoor.lTreeWider
