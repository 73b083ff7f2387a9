/- Proved: noontop.TopSure answers true for every input and leaves its arguments as they were: of a net of true clocks no loop is at fault, and what a tree and what most say of two clocks is true. Its conditions: none beyond the tied card's own. -/
import Derived.Test.YtfjpfkejajgkbaaDoorHDoor
import Derived.Test.YtfjpfkejajgkbaaDoorHNetN
import Derived.Test.YtfjpfkejajgkbaaDoorHNetD
import Derived.Test.YtfjpfkejajgkbaaDoorHG2
import Derived.Test.YtfjpfkejajgkbaaDoorHTopOne
import Derived.Test.YtfjpfkejajgkbaaDoorHMeetV
import Derived.Deep.DeepCutAuto
import Derived.Deep.CutBlock
import Derived.Deep.Light
namespace Go.Proofs.YtfjpfkejajgkbaaDoor.lTopSure
open Go.ChangeShapes Go.WideShapes Go.ChangeAt Go.RowKit
set_option linter.unusedVariables false
set_option linter.unusedSimpArgs false
theorem int_one (z : Int) : ∀ u ∈ intCells z, u.oneCell' = true := by intro u hu; simp [intCells] at hu; subst hu; rfl
theorem span_one (z : RSpan) : ∀ u ∈ RSpan.cells z, u.oneCell' = true := by intro u hu; simp [RSpan.cells] at hu; rcases hu with rfl | rfl <;> rfl
theorem tree_Spans_none (N : Int) (A : Option Addr) (n c : Nat) (zs : List REdge) (R : Int) (w : World) (hz : IsRecs w REdge.cells REdge.ok 4 A n c zs) (ht : treeC N zs R ≠ 0) :
    Calls Tryd.prog 24 #[.int .i64 N, .slice A n c, .int .i64 R] w fun e w' => e = .returned (.tuple #[.slice none 0 0, .slice none 0 0, errV (treeC N zs R)]) ∧ Below w.heap.size w w' := by
  have hm1 := hz.2.1
  have hm2 := hz.2.2.1
  unfold maxLen at hm2
  have C := Lib.hid (tree_ready N A n c zs R w hz)
  rw [errV_ne ht] at C
  have HT := Lib.hid ht
  clear hz ht
  go_enter Tryd.func24, Tryd.ntmps24
  go_wp2_with fail
  refine C.out.mono ?_
  rintro e w1 ⟨rfl, hb1⟩
  go_wp2_with fail
  refine bodyPost_ret (v := .tuple #[.slice none 0 0, .slice none 0 0, .iface 87 (.int .i64 (treeC N zs R))]) (by simp [results, Tryd.results24, go_sem]) rfl ?_
  exact ⟨by rw [errV_ne HT.out], hb1⟩
theorem recs_at {E : Type} {w : World} {cells : E → List Value} {ok : E → Prop} {k : Nat} {b off n c : Nat} {zs : List E} (h : IsRecs w cells ok k (some ⟨b, off, none⟩) n c zs) (h1 : 1 ≤ n) : b < w.heap.size ∧ ∀ W, Below w.heap.size w W → ∀ i z, zs[i]? = some z → ∀ j u, (cells z)[j]? = some u → W.cell? ⟨b, off + i * k + j, none⟩ = some u := by
  obtain ⟨b', off', e, hb, hc⟩ := h.2.2.2.2 h1
  cases e
  exact ⟨hb, fun W hW i z hz j u hu => (hW.cell (p := ⟨b, off + i * k + j, none⟩) hb).trans (hc i z hz j u hu)⟩
theorem recs_ptr {E : Type} {w : World} {cells : E → List Value} {ok : E → Prop} {k : Nat} {A : Option Addr} {n c : Nat} {zs : List E} (h : IsRecs w cells ok k A n c zs) (h1 : 1 ≤ n) : ∃ b off, A = some ⟨b, off, none⟩ := by
  obtain ⟨b', off', e, _⟩ := h.2.2.2.2 h1
  exact ⟨_, _, e⟩
set_option maxRecDepth 100000 in
set_option maxHeartbeats 64000000 in
theorem walk (a0 : Option Addr) (n0 c0 : Nat) (z0 : List Int) (a1 : Option Addr) (n1 c1 : Nat) (z1 : List Int) (a2 : Int) (a3 : Option Addr) (n3 c3 : Nat) (z3 : List RAct) (a4 : Int) (w : World) (h0 : IsInts w a0 n0 c0 z0) (h1 : IsInts w a1 n1 c1 z1) (h2 : -9223372036854775808 ≤ a2 ∧ a2 ≤ 9223372036854775807) (h3 : IsRecs w RAct.cells RAct.ok 3 a3 n3 c3 z3) (h4 : -9223372036854775808 ≤ a4 ∧ a4 ≤ 9223372036854775807) (hg : HandleAt w) :
    Calls Tryd.prog 4 #[.slice a0 n0 c0, .slice a1 n1 c1, .int .i64 a2, .slice a3 n3 c3, .int .i64 a4] w fun e w' => e = .returned (.bool true) ∧ Below w.heap.size w w' := by
  obtain ⟨i0, hi, hz0, hz1, hz2⟩ := info_parts infoI64
  obtain ⟨s0, si, sz0, sz1, sz2⟩ := info_parts infoSpan
  have CE5 := Lib.hid (fun w' (hb : Below w.heap.size w w') => show Calls Tryd.prog 23 #[.iface 87 (.int .i64 5), .int .i64 5] w' fun e w'' => e = .returned (.bool true) ∧ Below w'.heap.size w' w'' by have := Error_any 5 5 w' (hg.below hb); rw [errV_ne (by decide)] at this; simpa using this)
  have CE1 := Lib.hid (fun w' (hb : Below w.heap.size w w') => show Calls Tryd.prog 23 #[.iface 87 (.int .i64 1), .int .i64 1] w' fun e w'' => e = .returned (.bool true) ∧ Below w'.heap.size w' w'' by have := Error_any 1 1 w' (hg.below hb); rw [errV_ne (by decide)] at this; simpa using this)
  have H0 := Lib.hid h0
  have H1 := Lib.hid h1
  obtain ⟨l1, l2, l3, l4, l5⟩ := h3
  unfold maxLen at l3
  have L1 := Lib.hid l1
  have L4 := Lib.hid l4
  have L5 := Lib.hid l5
  have hp := Lib.hid h2
  clear h0 h1 h2 h4 l1 l4 l5 hg
  go_enter Tryd.func4, Tryd.ntmps4
  go_wp2_with fail
  refine (top_one _).mono ?_
  rintro e w5 ⟨rfl, hb5⟩
  have HBx := Lib.hid hb5
  have hz5 := hb5.size
  clear hb5
  go_wp2_with fail
  by_cases e0 : newC z0 z1 a2 = 0
  · obtain ⟨r1, r2, r3, r4, r5⟩ := newC_0 e0
    have hn1 : 1 ≤ n0 := by rw [← H0.out.1]; exact r2
    have hn6 : n0 ≤ 6 := by rw [← H0.out.1]; exact r3
    have LS := Lib.hid (show z0.length = n0 from H0.out.1)
    have LR := Lib.hid (show z1.length = n0 by rw [← H0.out.1]; exact r4)
    have hc0 := H0.out.2.2.1
    have hc00 := H0.out.2.1
    unfold maxLen at hc0
    have HT0 := Lib.hid (new_true (n := n0) e0 LS.out)
    have CN := Lib.hid (net_New a0 n0 c0 z0 a1 n1 c1 z1 a2 _ (H0.out.below HBx.out) (H1.out.below HBx.out) e0)
    clear r1 r2 r3 r4 r5 e0 H0 H1 hp
    refine CN.out.mono ?_
    rintro e w6 ⟨a, rfl, han, hgw, hN, hb6⟩
    subst han
    have HB6 := Lib.hid (HBx.out.trans (hb6.mono hz5))
    have hga : w.heap.size ≤ a.g := by omega
    have HN6 := Lib.hid hN
    have hz6 := HB6.out.size
    clear hgw hN hb6 HBx hz5 CN
    go_upto_block 0 with fail
    go_cut [15] (fun _ wx => ∃ (K : Nat) (t : Int) (uv : Value) (us : List RLetter) (S : Nat → NSt), NetAt wx a z0 z1 a2 t uv us K S ∧ TrueN a.n z0 z1 a2 t us S ∧ Below w.heap.size w wx)
    case first =>
      as_aux_lemma =>
      go_wp2_with fail
      go_loopw [15] (fun iv wr => ∃ (k : Nat) (t : Int) (uv : Value) (us : List RLetter) (S : Nat → NSt), iv = .int .i64 k ∧ k ≤ n3 ∧ k ≤ 60 ∧ NetAt wr a z0 z1 a2 t uv us k S ∧ TrueN a.n z0 z1 a2 t us S ∧ Below w.heap.size w wr) (fun iv _ => n3 - (intOf iv).toNat)
      case atStart => exact ⟨0, 0, _, [], _, rfl, by omega, by omega, HN6.out, HT0.out, HB6.out⟩
      case round =>
        obtain ⟨k, t, uv, us, S, rfl, hk, hk60, hN, hT, hB⟩ := hrel
        have HNr := Lib.hid hN
        have HTr := Lib.hid hT
        have HBr := Lib.hid hB
        have HZr := hB.size
        clear hN hT hB HN6 HT0 HB6
        by_cases d1 : k < n3
        · by_cases d2 : k < 60
          · obtain ⟨z, hz⟩ : ∃ z, z3[k]? = some z := ⟨_, List.getElem?_eq_getElem (by rw [L1.out]; omega)⟩
            obtain ⟨b3, off3, rfl, hb3, hc3⟩ := L5.out (by omega)
            have x0 : wr.cell? ⟨b3, off3 + k * 3, none⟩ = some (.int .i64 z.what) := (HBr.out.cell (p := ⟨b3, off3 + k * 3, none⟩) hb3).trans (hc3 k z hz 0 _ rfl)
            have x1 : wr.cell? ⟨b3, off3 + k * 3 + 1, none⟩ = some (.int .i64 z.a) := (HBr.out.cell (p := ⟨b3, off3 + k * 3 + 1, none⟩) hb3).trans (hc3 k z hz 1 _ rfl)
            have x2 : wr.cell? ⟨b3, off3 + k * 3 + 2, none⟩ = some (.int .i64 z.b) := (HBr.out.cell (p := ⟨b3, off3 + k * 3 + 2, none⟩) hb3).trans (hc3 k z hz 2 _ rfl)
            obtain ⟨c, t', us', S', hna⟩ := nact_total a.n z0 z1 t us S z LS.out LR.out HNr.out.has
            obtain ⟨hT', hc7⟩ := nact_true HTr.out LS.out hna
            have CD := Lib.hid (net_Do a z0 z1 a2 t t' uv us us' k S S' z c wr HNr.out (L4.out z (List.mem_of_getElem? hz)) (by omega) hna)
            have HT' := Lib.hid hT'
            have q0 : (0 : Int) ≤ (k : Int) := by omega
            have q1 : (k : Int) < (n3 : Int) := by omega
            have q2 : (k : Int) < 60 := by omega
            clear hc3 hz hna hT' hc7
            go_wp2_with fail
            refine CD.out.mono ?_
            rintro e w7 ⟨rfl, uv', hN7, hK7, _⟩
            have HB7 := Lib.hid (HNr.out.done HBr.out hga hK7)
            have HN7 := Lib.hid hN7
            clear hN7 hK7 CD HNr HBr HTr x0 x1 x2
            go_wp2_with fail
            go_roundw
            case rel => exact ⟨k + 1, t', uv', us', S', by go_num, by omega, by omega, HN7.out, HT'.out, HB7.out⟩
            case measure => go_light; simp [intOf]; omega
          · obtain rfl : k = 60 := by omega
            go_wp2_with fail
            go_meet
            case rel => exact ⟨_, _, _, _, _, HNr.out, HTr.out, HBr.out⟩
        · obtain rfl : k = n3 := by omega
          go_wp2_with fail
          go_meet
          case rel => exact ⟨_, _, _, _, _, HNr.out, HTr.out, HBr.out⟩
    case rest =>
    obtain ⟨K, t, uv, us, S, hN, hT, hB⟩ := hcut
    obtain ⟨w7, hw7⟩ : ∃ x : World, x = wc := ⟨_, rfl⟩
    subst hw7
    have HB8 := Lib.hid hB
    have HN8 := Lib.hid hN
    have HT' := Lib.hid hT
    have hz8 := hB.size
    clear hN hT hB HN6 HT0 HB6
    go_wp2_with fail
    go_loopw [14, 16] (fun lv jv wx => ∃ j : Nat, jv = .int .i64 j ∧ j ≤ a.n ∧ wx.ownsRow w7.heap.size 3 1 lv (shows z0 z1 t j).length ((shows z0 z1 t j).flatMap intCells) ∧ Below w7.heap.size w7 wx) (fun _ jv _ => a.n - (intOf jv).toNat)
    case atStart => exact ⟨0, rfl, by omega, own_nil _ _ _ _, Below.refl _ _⟩
    case round =>
      obtain ⟨j, rfl, hj, hO, hBx⟩ := hrel
      have HO := Lib.hid hO
      have HBx := Lib.hid hBx
      have hzx := hBx.size
      clear hO hBx
      by_cases d3 : j < a.n
      · as_aux_lemma =>
        have d4 : (j : Int) < 6 := by omega
        have d5 : (j : Int) < (a.n : Int) := by omega
        have CS := Lib.hid (net_Show a z0 z1 a2 t uv us K S j wr (HN8.out.below HBx.out) d3)
        have HLn := Lib.hid (shows_len z0 z1 t j)
        have HSu := Lib.hid (shows_succ z0 z1 t j)
        obtain ⟨R, eR⟩ : ∃ R, hereAt z0 z1 t j = R := ⟨_, rfl⟩
        obtain ⟨L, eL⟩ : ∃ L, shows z0 z1 t j = L := ⟨_, rfl⟩
        rw [eR] at CS HSu
        rw [eL] at HO HLn HSu
        have hxl := Lib.hid (show L.length ≤ 6 by have := HLn.out; omega)
        clear eR eL
        go_wp2_with fail
        refine CS.out.mono ?_
        rintro e w9 ⟨rfl, hb9⟩
        have HB9 := Lib.hid hb9
        have hz9 := hb9.size
        have HO9 := Lib.hid (own_below HO.out HB9.out)
        clear hb9 CS HO
        go_wp2_with (at_builtin; refine wpList_append_own _ rfl _ _ 22 rfl w7.heap.size 3 i0 (.int .i64 0) 1 8 Tryd.underlying22 hi hz0 hz1 hz2 rfl (by decide) _ _ _ rfl (HO9.out.alloc _) ⟨w9.heap.size, 0, none⟩ 1 1 _ rfl rfl (cell_new w9 (intCells R) _) (int_one R) (by have := hxl.out; unfold maxLen; omega) (by have := hxl.out; omega) (by simp; omega) ?_; intro v' w10 ho10 hg10 _)
        have HB10 := Lib.hid (show Below w7.heap.size w7 w10 from
          (((HBx.out.trans (HB9.out.mono (by omega))).alloc (by omega) _).grown hg10 (by simp; omega) (fun k hk => (HO9.out.lt k hk).1)))
        have HO10 := Lib.hid (by have := own_snoc intCells (z := R) ho10; rw [← HSu.out] at this; exact this)
        clear ho10 hg10 HO9
        go_wp2_with fail
        go_roundw
        case rel => exact ⟨j + 1, by go_num, by omega, HO10.out, HB10.out⟩
        case measure => go_light; simp [intOf]; omega
      · obtain rfl : j = a.n := by omega
        obtain ⟨A9, n9, c9, e9, hI9⟩ := own_recs intCells i64B 1 (fun _ => rfl) HO.out (fun z hz => by have := HT'.out.shows_ok z hz; unfold i64B; omega)
        obtain rfl : n9 = a.n := by rw [← hI9.1, shows_len]
        obtain ⟨ab, ao, rfl⟩ := recs_ptr hI9 hn1
        have hc9 := hI9.2.2.1
        have hn9 := hI9.2.1
        unfold maxLen at hc9
        have HBw := Lib.hid (HB8.out.trans (HBx.out.mono hz8))
        have hzw := HBw.out.size
        have HIw := Lib.hid hI9
        have CEd := Lib.hid (net_Edges a z0 z1 a2 t uv us K S wr (HN8.out.below HBx.out))
        rw [HT'.out.netC a.n (Nat.le_refl _), show netE (hereAt z0 z1 t) S a.n = netL (hereAt z0 z1 t) S a.n by unfold netE; rw [if_pos (HT'.out.netC a.n (Nat.le_refl _))]] at CEd
        have HE0 := Lib.hid (HT'.out.edgesC hn1)
        have HFi := Lib.hid (fun k loop h => HT'.out.find hn1 (k := k) (loop := loop) h)
        have HFa := Lib.hid (fun v c h => HT'.out.fault hn1 (v := v) (c := c) h)
        have HTE := Lib.hid HT'.out.trueE
        have CBd := Lib.hid (fun (i : Nat) (hi : i < a.n) => HT'.out.C.bd hi HT'.out.t0 HT'.out.t1)
        have HSg := Lib.hid (fun (i : Nat) (hi : i < a.n) => shows_get (ss := z0) (rs := z1) (t := t) hi)
        obtain ⟨hh, ehh⟩ : ∃ f, hereAt z0 z1 t = f := ⟨_, rfl⟩
        simp only [ehh] at CEd HE0 HFi HFa HTE CBd HSg
        obtain ⟨L, eL⟩ : ∃ L, netL hh S a.n = L := ⟨_, rfl⟩
        simp only [eL] at CEd HE0 HFi HFa HTE
        obtain ⟨X, eX⟩ : ∃ X, shows z0 z1 t a.n = X := ⟨_, rfl⟩
        simp only [eX] at HIw HSg
        rw [e9]
        clear hI9 e9 HO HBx HN8 HB8 hj HT' ehh eL eX
        go_wp2_with fail
        refine CEd.out.mono ?_
        rintro e w11 ⟨A11, n11, c11, rfl, hI11, hb11⟩
        have HL11 := Lib.hid hI11
        have hn11 := hI11.2.1
        have hc11 := hI11.2.2.1
        have hl11 : L.length = n11 := hI11.1
        have h40 : n11 ≤ 40 := by have := (edgesC_0 HE0.out).2.2.1; omega
        unfold maxLen at hc11
        have HEO := Lib.hid (show EdgesOk a.n L by have := (edgesC_0 HE0.out).2.2.2; simpa using this)
        have HB11 := Lib.hid (HBw.out.trans (hb11.mono hzw))
        have HI11 := Lib.hid (HIw.out.below hb11)
        have hz11 := HB11.out.size
        have CF1 := Lib.hid (loops_Find (a.n : Int) A11 n11 c11 L w11 hI11)
        clear hI11 hb11 CEd HBw HIw
        go_wp2_with fail
        refine CF1.out.mono ?_
        rintro e w12 ⟨A12, n12, c12, k12, rfl, hb12, hF⟩
        obtain rfl : k12 = 5 := by
          rcases hF with ⟨h0, _⟩ | ⟨_, loop, _, hF⟩
          · exact absurd HE0.out h0
          · exact HFi.out _ _ (by simpa using hF)
        have HL12 := Lib.hid (HL11.out.below hb12)
        have HI12 := Lib.hid (HI11.out.below hb12)
        have HB12 := Lib.hid (HB11.out.trans (hb12.mono hz11))
        have hz12 := HB12.out.size
        have CF2 := Lib.hid (loops_Fault (a.n : Int) A11 n11 c11 L w12 HL12.out)
        rw [errV_ne (show (5 : Int) ≠ 0 by decide)]
        clear hF hb12 CF1 HB11 HL11 HI11
        go_wp2_with fail
        refine CF2.out.mono ?_
        rintro e w13 ⟨v13, k13, rfl, hb13, hF⟩
        obtain rfl : k13 = 5 := by
          rcases hF with ⟨h0, _⟩ | ⟨_, hF⟩
          · exact absurd HE0.out h0
          · exact HFa.out _ _ (by simpa using hF)
        have HL13 := Lib.hid (HL12.out.below hb13)
        have HI13 := Lib.hid (HI12.out.below hb13)
        have HB13 := Lib.hid (HB12.out.trans (hb13.mono hz12))
        have hz13 := HB13.out.size
        rw [errV_ne (show (5 : Int) ≠ 0 by decide)]
        clear hF hb13 CF2 HB12 HL12 HI12
        go_wp2_with fail
        refine (CE5.out _ HB13.out).mono ?_
        rintro e w14 ⟨rfl, hb14⟩
        have HL14 := Lib.hid (HL13.out.below hb14)
        have HI14 := Lib.hid (HI13.out.below hb14)
        have HB14 := Lib.hid (HB13.out.trans (hb14.mono hz13))
        have hz14 := HB14.out.size
        clear hb14 HB13 HL13 HI13
        go_wp2_with fail
        refine (CE5.out _ HB14.out).mono ?_
        rintro e w15 ⟨rfl, hb15⟩
        have HL15 := Lib.hid (HL14.out.below hb15)
        have HI15 := Lib.hid (HI14.out.below hb15)
        have HB15 := Lib.hid (HB14.out.trans (hb15.mono hz14))
        have hz15 := HB15.out.size
        clear hb15 HB14 HL14 HI14 CE5
        go_wp2_with fail
        by_cases hR : 0 ≤ a4 ∧ a4 < (a.n : Int)
        · obtain ⟨R, rfl⟩ := Int.eq_ofNat_of_zero_le hR.1
          have hRn : R < a.n := by omega
          obtain ⟨o, b, hob, hol, hbl, hsp⟩ := spD_t hRn (by omega) HEO.out HTE.out (by omega) (by omega)
          have HSP := Lib.hid hsp
          have CT := Lib.hid (tree_Spans_ok a.n R A11 n11 c11 L w15 HL15.out HE0.out hRn)
          have HOB := Lib.hid hob
          have HOL := Lib.hid hol
          have HBL := Lib.hid hbl
          have r1 : decide ((R : Int) < 0) = false := by simp
          have r2 : decide ((a.n : Int) ≤ (R : Int)) = false := by simp; omega
          have r3 : decide (a.n ≤ R) = false := by simp; omega
          clear hsp hob hol hbl hR
          refine CT.out.mono ?_
          rintro e w16 ⟨hsp, _⟩
          obtain ⟨fa, fn, fc, ga, gn, gc, rfl, hf1, hf2, hb16⟩ := hsp _ _ HOB.out
          obtain rfl : fn = a.n := by rw [← hf1.1, HOL.out]
          obtain rfl : gn = a.n := by rw [← hf2.1, HBL.out]
          obtain ⟨fb, fo, rfl⟩ := recs_ptr hf1 hn1
          obtain ⟨gb, go, rfl⟩ := recs_ptr hf2 hn1
          have hfc := hf1.2.1
          have hfm := hf1.2.2.1
          have hgc := hf2.2.1
          have hgm := hf2.2.2.1
          unfold maxLen at hfm hgm
          have HF1 := Lib.hid (recs_at hf1 hn1)
          have HF2 := Lib.hid (recs_at hf2 hn1)
          have HFA := Lib.hid (recs_at (HI15.out.below hb16) hn1)
          have HL16 := Lib.hid (HL15.out.below hb16)
          have HB16 := Lib.hid (HB15.out.trans (hb16.mono hz15))
          have hz16 := HB16.out.size
          have lf := HF1.out.1
          have lg := HF2.out.1
          have la := HFA.out.1
          clear hsp hf1 hf2 hb16 CT HB15 HL15 HI15 HOB HOL HBL CE1
          go_wp2_with fail
          clear r1 r2 r3
          go_loopw [29] (fun iv wx => ∃ i : Nat, iv = .int .i64 i ∧ i ≤ a.n ∧ Below w16.heap.size w16 wx) (fun iv _ => a.n - (intOf iv).toNat)
          case atStart => exact ⟨0, rfl, by omega, Below.refl _ _⟩
          case round =>
            obtain ⟨i, rfl, hi16, hBi⟩ := hrel
            have HBi := Lib.hid hBi
            have hzi := hBi.size
            clear hBi
            by_cases g1 : i < a.n
            · as_aux_lemma =>
              have g2 : (i : Int) < (a.n : Int) := by omega
              have g3 : (0 : Int) ≤ (i : Int) := by omega
              have g4 : (0 : Int) ≤ (R : Int) := by omega
              have g5 : (R : Int) < (a.n : Int) := by omega
              have x0 := HFA.out.2 wr HBi.out i _ (HSg.out i g1) 0 _ rfl
              have x1 := HFA.out.2 wr HBi.out R _ (HSg.out R hRn) 0 _ rfl
              have bd1 := CBd.out i g1
              have bd2 := CBd.out R hRn
              have hsp := HSP.out i g1
              obtain ⟨ca, eca⟩ : ∃ v, hh R = v := ⟨_, rfl⟩
              obtain ⟨cb, ecb⟩ : ∃ v, hh i = v := ⟨_, rfl⟩
              rw [ecb] at x0 bd1
              rw [eca] at x1 bd2
              rw [ecb, eca] at hsp
              have Y2 := Lib.hid (IntWalk.i64_in (cb - ca) (by omega))
              simp only [Nat.mul_one, Nat.add_zero] at x0 x1
              rcases hsp with ⟨hb, s, hs, hin⟩ | hb
              · have x2 := HF2.out.2 wr HBi.out i _ hb 0 _ rfl
                have x3 := HF1.out.2 wr HBi.out i _ hs 0 _ rfl
                have x4 := HF1.out.2 wr HBi.out i _ hs 1 _ rfl
                simp only [Nat.mul_one, Nat.add_zero] at x2 x3
                have hr : rightB s.lo s.hi = true := by unfold hasB at hin; rw [Bool.and_eq_true] at hin; exact hin.1
                have CH := Lib.hid (fun w => span_Has s.lo s.hi (cb - ca) w)
                rw [hin, hr] at CH
                obtain ⟨sl, esl⟩ : ∃ v, s.lo = v := ⟨_, rfl⟩
                obtain ⟨sh, esh⟩ : ∃ v, s.hi = v := ⟨_, rfl⟩
                rw [esl, esh] at CH
                rw [esl] at x3
                rw [esh] at x4
                have HMT := Lib.hid (fun k z (hz : z ∈ saidL L (R : Int) (i : Int) k) => by have := said_true HEO.out HTE.out (root := R) (i := i) z hz; rw [ecb, eca] at this; exact this)
                have HMC := Lib.hid (fun h => said_C (root := R) (i := i) HEO.out HTE.out (by omega) h)
                have kf : fb < wr.heap.size := by omega
                have kg : gb < wr.heap.size := by omega
                have ka : ab < wr.heap.size := by omega
                clear hb hs hin hr esl esh bd1 bd2
                go_upto_if 162 with (fail)
                go_wp2_with fail
                have y5 := Y2.out
                go_region_held3 (fun w' => w'.cell? ⟨fb, fo + i * 2, none⟩ = some (.int .i64 sl) ∧ w'.cell? ⟨fb, fo + i * 2 + 1, none⟩ = some (.int .i64 sh) ∧ w'.cell? ⟨ab, ao + i, none⟩ = some (.int .i64 cb) ∧ w'.cell? ⟨ab, ao + R, none⟩ = some (.int .i64 ca)) ((repeat' apply And.intro) <;> assumption)
                  (first | (go_at_call 15; (with_reducible refine (CH.out _).mono ?_); rintro e w17 ⟨rfl, hb17⟩; obtain ⟨hc17, hf17⟩ := bcell hb17; have hz17 := hb17.size; have z2 := (hc17 fb (fo + i * 2) kf).trans x3; have z3' := (hc17 fb (fo + i * 2 + 1) kf).trans x4; have z0' := (hc17 ab (ao + i) ka).trans x0; have z1' := (hc17 ab (ao + R) ka).trans x1; (try simp at hz17)))
                all_goals
                  clear y5
                  have HB17 := Lib.hid (show Below w16.heap.size w16 _ from (show Below w16.heap.size w16 wr.drew from ⟨HBi.out.os, HBi.out.tape, HBi.out.output, HBi.out.size, HBi.out.block⟩).trans (hb17.mono hzi))
                  have hz17 := HB17.out.size
                  clear hc17 hf17 hb17 z2 z3' z0' z1'
                  go_wp2_with fail
                  go_loopw [32, 33] (fun sv kv wx => ∃ k : Nat, kv = .int .i64 k ∧ k ≤ n11 ∧ wx.ownsRow w17.heap.size 41 2 sv (saidL L (R : Int) (i : Int) k).length ((saidL L (R : Int) (i : Int) k).flatMap RSpan.cells) ∧ Below w17.heap.size w17 wx) (fun _ kv _ => n11 - (intOf kv).toNat)
                  case atStart => exact ⟨0, rfl, by omega, own_nil _ _ _ _, Below.refl _ _⟩
                  case round =>
                    obtain ⟨k, rfl, hk, hO, hBk⟩ := hrel
                    have HO := Lib.hid hO
                    have HBk := Lib.hid hBk
                    have hzk := hBk.size
                    clear hO hBk
                    by_cases m1 : k < n11
                    · have m2 : (k : Int) < (n11 : Int) := by omega
                      have m3 : (0 : Int) ≤ (k : Int) := by omega
                      obtain ⟨eb, eo, rfl⟩ := recs_ptr HL16.out (by omega)
                      obtain ⟨heb, hec⟩ := recs_at HL16.out (by omega)
                      obtain ⟨z, hz⟩ : ∃ z, L[k]? = some z := ⟨_, List.getElem?_eq_getElem (by omega)⟩
                      have HBk16 := Lib.hid (HB17.out.trans (HBk.out.mono hz17))
                      have v0 := hec wr HBk16.out k z hz 0 _ rfl
                      have v1 := hec wr HBk16.out k z hz 1 _ rfl
                      have v2 := hec wr HBk16.out k z hz 2 _ rfl
                      have v3 := hec wr HBk16.out k z hz 3 _ rfl
                      simp only [Nat.add_zero] at v0
                      have HSn := Lib.hid (fun h => said_no (l := L) (root := (R : Int)) (i := (i : Int)) hz h)
                      have HSy := Lib.hid (fun h => said_yes (l := L) (root := (R : Int)) (i := (i : Int)) hz h)
                      have HLe := Lib.hid (said_len L (R : Int) (i : Int) k)
                      obtain ⟨Y, eY⟩ : ∃ Y, saidL L (R : Int) (i : Int) k = Y := ⟨_, rfl⟩
                      rw [eY] at HO HSn HSy HLe
                      obtain ⟨za, zb, zl, zh⟩ := z
                      simp only [] at v0 v1 v2 v3
                      clear hz hec eY
                      by_cases q1 : za = (R : Int)
                      · by_cases q2 : zb = (i : Int)
                        · subst q1
                          subst q2
                          have hq := Lib.hid (HSy.out (by unfold saidOne; simp))
                          clear HSn HSy
                          as_aux_lemma =>
                          go_upto_if 207 with (fail)
                          go_wp2_with (at_builtin; refine wpList_append_own _ rfl _ _ 67 rfl w17.heap.size 41 s0 (.agg #[.int .i64 0, .int .i64 0]) 2 16 Tryd.underlying67 si sz0 sz1 sz2 rfl (by decide) _ _ _ rfl (HO.out.alloc _) ⟨wr.heap.size, 0, none⟩ 1 1 _ rfl rfl (cell_newAt wr (RSpan.cells ⟨zl, zh⟩) _ _ rfl) (span_one ⟨zl, zh⟩) (by have := HLe.out; unfold maxLen; omega) (by have := HLe.out; omega) (by simp; omega) ?_; intro v' w18 ho18 hg18 _)
                          have HB18 := Lib.hid (show Below w17.heap.size w17 w18 from (HBk.out.alloc (by omega) _).grown hg18 (by simp; omega) (fun q hq => (HO.out.lt q hq).1))
                          have HO18 := Lib.hid (by have := own_snoc RSpan.cells (z := ⟨zl, zh⟩) ho18; rw [← hq.out] at this; exact this)
                          clear ho18 hg18 HO
                          go_wp2_with fail
                          go_roundw
                          case rel => exact ⟨k + 1, by go_num, by omega, HO18.out, HB18.out⟩
                          case measure => go_light; simp [intOf]; omega
                        · have hq := Lib.hid (HSn.out (by unfold saidOne; simp [q2]))
                          subst q1
                          clear HSn HSy
                          as_aux_lemma =>
                          go_upto_if 207 with (fail)
                          go_wp2_with fail
                          go_roundw
                          case rel => exact ⟨k + 1, by go_num, by omega, by rw [hq.out]; exact HO.out, HBk.out⟩
                          case measure => go_light; simp [intOf]; omega
                      · have hq := Lib.hid (HSn.out (by unfold saidOne; simp [q1]))
                        clear HSn HSy
                        as_aux_lemma =>
                        go_upto_if 207 with (fail)
                        go_wp2_with fail
                        go_roundw
                        case rel => exact ⟨k + 1, by go_num, by omega, by rw [hq.out]; exact HO.out, HBk.out⟩
                        case measure => go_light; simp [intOf]; omega
                    · obtain rfl : k = n11 := by omega
                      have HMM := Lib.hid (fun z hz => HMT.out k z hz)
                      have HMN := Lib.hid (by rw [← hl11]; exact HMC.out : (saidL L (R : Int) (i : Int) k).length ≠ 0 → spansC (saidL L (R : Int) (i : Int) k) = 0)
                      obtain ⟨As, ns, cs, es, hIs⟩ := own_recs RSpan.cells RSpan.ok 2 (fun _ => rfl) HO.out (fun z hz => (HMM.out z hz).2.2)
                      obtain ⟨Y, eY⟩ : ∃ Y, saidL L (R : Int) (i : Int) k = Y := ⟨_, rfl⟩
                      rw [eY] at hIs HMN HMM
                      have hns : Y.length = ns := hIs.1
                      have hcs := hIs.2.2.1
                      have hcs2 := hIs.2.1
                      unfold maxLen at hcs
                      have HBk16 := Lib.hid (HB17.out.trans (HBk.out.mono hz17))
                      have hzk16 := HBk16.out.size
                      by_cases n0' : ns = 0
                      · subst n0'
                        rw [es]
                        clear hIs HMN HMM HMT HMC HO HBk eY hns es CH
                        as_aux_lemma =>
                        go_wp2_with fail
                        go_roundw
                        case rel => exact ⟨i + 1, by go_num, by omega, HBk16.out⟩
                        case measure => go_light; simp [intOf]; omega
                      · have CM := Lib.hid (vote_Meet_in As ns cs Y (cb - ca) wr hIs (HMN.out (by omega)) (fun z hz => (HMM.out z hz).1))
                        have n1' : ((ns : Int) == 0) = false := by simp; omega
                        have n2' : decide ((ns : Int) = 0) = false := by simp; omega
                        rw [es]
                        clear hIs HMN HMM HMT HMC HO HBk eY hns es CH n0'
                        as_aux_lemma =>
                        go_wp2_with fail
                        refine CM.out.mono ?_
                        rintro e w19 ⟨ml, mh, rfl, hm, hb19⟩
                        have CH2 := Lib.hid (fun w => by have := span_Has ml mh (cb - ca) w; rw [show hasB ml mh (cb - ca) = true by unfold hasB; rw [rightB_iff.2 (by omega)]; simp; omega, show rightB ml mh = true from rightB_iff.2 (by omega)] at this; exact this)
                        have HB19 := Lib.hid (HBk16.out.trans (hb19.mono hzk16))
                        have hz19 := HB19.out.size
                        obtain ⟨w20, hw20⟩ : ∃ W, w19.alloc (.cells #[.int .i64 ml, .int .i64 mh] 41) = W := ⟨_, rfl⟩
                        have hb20 : Below w19.heap.size w19 w20 := by rw [← hw20]; exact (Below.refl _ _).alloc (Nat.le_refl _) _
                        have HB20 := Lib.hid (HB19.out.trans (hb20.mono hz19))
                        have hz20 := HB20.out.size
                        have hbk : Blk w20 w19.heap.size 41 #[.int .i64 ml, .int .i64 mh] := by rw [← hw20]; exact Blk.new w19 _ _
                        have y0 := hbk.cell 0
                        have y1 := hbk.cell 1
                        simp at y0 y1
                        have x0 := HFA.out.2 w20 HB20.out i _ (HSg.out i g1) 0 _ rfl
                        have x1 := HFA.out.2 w20 HB20.out R _ (HSg.out R hRn) 0 _ rfl
                        rw [ecb] at x0
                        rw [eca] at x1
                        simp only [Nat.mul_one, Nat.add_zero] at x0 x1
                        have ka : ab < w20.heap.size := by omega
                        have ks : w19.heap.size < w20.heap.size := hbk.lt
                        clear hb19 hb20 hbk hm HB19 CM eca ecb
                        go_wp2_with fail
                        clear hw20
                        have y5 := Y2.out
                        go_region_held3 (fun w' => w'.cell? ⟨w19.heap.size, 0, none⟩ = some (.int .i64 ml) ∧ w'.cell? ⟨w19.heap.size, 1, none⟩ = some (.int .i64 mh) ∧ w'.cell? ⟨ab, ao + i, none⟩ = some (.int .i64 cb) ∧ w'.cell? ⟨ab, ao + R, none⟩ = some (.int .i64 ca)) ((repeat' apply And.intro) <;> assumption)
                          (first | (go_at_call 15; (with_reducible refine (CH2.out _).mono ?_); rintro e w21 ⟨rfl, hb21⟩; obtain ⟨hc21, hf21⟩ := bcell hb21; have hz21 := hb21.size; have z2 := (hc21 w19.heap.size 0 ks).trans y0; have z3' := (hc21 w19.heap.size 1 ks).trans y1; have z0' := (hc21 ab (ao + i) ka).trans x0; have z1' := (hc21 ab (ao + R) ka).trans x1; (try simp at hz21)))
                        all_goals
                          clear y5
                          have HB21 := Lib.hid (show Below w16.heap.size w16 _ from (show Below w16.heap.size w16 w20.drew from ⟨HB20.out.os, HB20.out.tape, HB20.out.output, HB20.out.size, HB20.out.block⟩).trans (hb21.mono hz20))
                          clear hc21 hf21 hb21 z2 z3' z0' z1'
                          go_wp2_with fail
                          go_roundw
                          case rel => exact ⟨i + 1, by go_num, by omega, HB21.out⟩
                          case measure => go_light; simp [intOf]; omega
              · have x2 := HF2.out.2 wr HBi.out i _ hb 0 _ rfl
                simp only [Nat.mul_one, Nat.add_zero] at x2
                clear hb
                go_wp2_with fail
                go_roundw
                case rel => exact ⟨i + 1, by go_num, by omega, HBi.out⟩
                case measure => go_light; simp [intOf]; omega
            · obtain rfl : i = a.n := by omega
              go_wp2_with fail
              go_ret
              exact ⟨rfl, HB16.out.trans (HBi.out.mono hz16)⟩
        · have ht : treeC a.n L a4 = 1 := by
            unfold treeC
            rw [if_pos HE0.out, if_neg]
            rw [nodeB_iff]
            exact hR
          have CT := Lib.hid (tree_Spans_none (a.n : Int) A11 n11 c11 L a4 w15 HL15.out (by rw [ht]; decide))
          rw [ht, errV_ne (show (1 : Int) ≠ 0 by decide)] at CT
          have hR' : a4 < 0 ∨ (a.n : Int) ≤ a4 := by omega
          clear ht hR
          refine CT.out.mono ?_
          rintro e w16 ⟨rfl, hb16⟩
          have HB16 := Lib.hid (HB15.out.trans (hb16.mono hz15))
          have hz16 := HB16.out.size
          clear hb16 CT HB15
          rcases hR' with hR' | hR'
          · have r1 : decide (a4 < 0) = true := by simp; omega
            clear hR'
            go_wp2_with fail
            refine (CE1.out _ HB16.out).mono ?_
            rintro e w17 ⟨rfl, hb17⟩
            go_wp2_with fail
            go_ret
            exact ⟨rfl, HB16.out.trans (hb17.mono hz16)⟩
          · have r1 : decide (a4 < 0) = false := by simp; omega
            have r2 : decide ((a.n : Int) ≤ a4) = true := by simp; omega
            clear hR'
            go_wp2_with fail
            refine (CE1.out _ HB16.out).mono ?_
            rintro e w17 ⟨rfl, hb17⟩
            go_wp2_with fail
            go_ret
            exact ⟨rfl, HB16.out.trans (hb17.mono hz16)⟩
  · have CN := Lib.hid (net_New_no a0 n0 c0 z0 a1 n1 c1 z1 a2 _ (H0.out.below HBx.out) (H1.out.below HBx.out) hp.out e0)
    obtain ⟨c, hc⟩ : ∃ c, newC z0 z1 a2 = c := ⟨_, rfl⟩
    rw [hc] at CN e0
    clear hc H0 H1 hp
    refine CN.out.mono ?_
    rintro e w6 ⟨rfl, rfl⟩
    go_wp2_with fail
    go_ret
    exact ⟨rfl, HBx.out⟩

set_option maxRecDepth 100000 in
theorem lifted (os : Os) (started : os.Started) (H : Type) (enc : TypeId × Value → H) :
    ReturnsInHanded {} Tryd.checked os 4 .any (fun w args => (Rows.topSureSpec.pre enc Tryd.prog Tryd.f4 [] false w args ∧ laidMetH Tryd.prog laidList w) ∧ sizedMet enc Tryd.prog Tryd.f4 (OpenSpec.ofChange Rows.topSureSpec) false w args)
      (Rows.topSureSpec.post enc Tryd.prog Tryd.f4 false true false false) := by
  refine returnsInHanded_of_change_and (C := Tryd.checked) (X := fun w _ => laidMetH Tryd.prog laidList w) (fun _ _ _ hh h => h.of_heap hh) own started (by kernel_rfl) Tryd.func4
    (ChangeSpec.witness_at (enc := enc) (C := Tryd.checked) (os := os) (X := fun w _ => laidMetH Tryd.prog laidList w) false (laidWorld os) #[.slice none 0 0, .slice none 0 0, .int .i64 0, .slice none 0 0, .int .i64 0] 8 rfl (by kernel_rfl) (by kernel_rfl) (by kernel_rfl) (by kernel_rfl) (by kernel_rfl) (laidWorld_met os _)) ?_
  intro W base args ds gs before hval0 hW hcnd hreach hL _
  have hval : ∀ (j : Nat) t v, Tryd.f4.params[j]? = some t → args[j]? = some v → Value.okWide Tryd.prog W .any base t v := hval0
  have hW' := hW
  obtain ⟨p, q, hA0, hV, rfl, hfz, hnd⟩ := hW
  have hA : DataW.TrodAll enc Tryd.prog W 0 (fun _ => true) true Tryd.f4.params.toList args.toList ds p := hA0
  rw [Tryd.params4] at hA hval
  obtain ⟨v0, vs0, d0, ds0, p0, q0, hargs, rfl, rfl, g0, r0⟩ := trodAll_cons hA
  obtain ⟨v1, vs1, d1, ds1, p1, q1, rfl, rfl, rfl, g1, r1⟩ := trodAll_cons r0
  obtain ⟨v2, vs2, d2, ds2, p2, q2, rfl, rfl, rfl, g2, r2⟩ := trodAll_cons r1
  obtain ⟨v3, vs3, d3, ds3, p3, q3, rfl, rfl, rfl, g3, r3⟩ := trodAll_cons r2
  obtain ⟨v4, vs4, d4, ds4, p4, q4, rfl, rfl, rfl, g4, r4⟩ := trodAll_cons r3
  obtain ⟨rfl, rfl, rfl⟩ := trodAll_nil r4
  obtain rfl : args = #[v0, v1, v2, v3, v4] := by cases args; simp_all
  have hV2 : DataW.TrodVars enc Tryd.prog W (fun _ => true) [] gs q := hV
  obtain ⟨rfl, rfl⟩ : gs = [] ∧ q = [] := by
    cases gs with
    | nil => exact ⟨rfl, hV2⟩
    | cons g r => exact absurd hV2 (by intro h; cases h)
  have k0 := g0
  have lt0 : ∀ x ∈ p0, x.block < W.heap.size := by obtain ⟨m, hm⟩ := k0; exact DataW.trod_lt m _ _ _ hm
  have rd0 : Tryd.prog.readableRec 22 = true := by kernel_rfl
  have ls0 : 22 < Tryd.prog.types.size := of_decide_eq_true (by kernel_rfl)
  obtain ⟨a0, n0, c0, z0, rfl, h0⟩ := open_Ints (hval 0 22 v0 rfl rfl) g0
  have k1 := g1
  have lt1 : ∀ x ∈ p1, x.block < W.heap.size := by obtain ⟨m, hm⟩ := k1; exact DataW.trod_lt m _ _ _ hm
  have rd1 : Tryd.prog.readableRec 22 = true := by kernel_rfl
  have ls1 : 22 < Tryd.prog.types.size := of_decide_eq_true (by kernel_rfl)
  obtain ⟨a1, n1, c1, z1, rfl, h1⟩ := open_Ints (hval 1 22 v1 rfl rfl) g1
  obtain ⟨a2, rfl, rfl, rfl, u2⟩ := open_int Tryd.underlying3 (hval 2 3 v2 rfl rfl) g2
  have h2 := bounds_i64 u2
  have k3 := g3
  have lt3 : ∀ x ∈ p3, x.block < W.heap.size := by obtain ⟨m, hm⟩ := k3; exact DataW.trod_lt m _ _ _ hm
  have rd3 : Tryd.prog.readableRec 59 = true := by kernel_rfl
  have ls3 : 59 < Tryd.prog.types.size := of_decide_eq_true (by kernel_rfl)
  obtain ⟨a3, n3, c3, z3, rfl, h3⟩ := open_RActs (hval 3 59 v3 rfl rfl) g3
  obtain ⟨a4, rfl, rfl, rfl, u4⟩ := open_int Tryd.underlying3 (hval 4 3 v4 rfl rfl) g4
  have h4 := bounds_i64 u4
  clear hA0 hval0
  refine (walk a0 n0 c0 z0 a1 n1 c1 z1 a2 a3 n3 c3 z3 a4 W h0 h1 h2 h3 h4 (handle_of_laid hL)).mono fun e W' ⟨he, bel⟩ => ?_
  subst he
  exact ⟨_, rfl, _, _, _, [], _, [], hW', trodAll_mk1 (shut_bool Tryd.underlying4 _), (trodAll_cons_mk (Below.trod laidOut rd0 ls0 k0 bel lt0) (trodAll_cons_mk (Below.trod laidOut rd1 ls1 k1 bel lt1) (trodAll_cons_mk (shut_int Tryd.underlying3 u2) (trodAll_cons_mk (Below.trod laidOut rd3 ls3 k3 bel lt3) (trodAll_cons_mk (shut_int Tryd.underlying3 u4) trodAll_mk0))))), rfl, bel.frame _, fun h => by cases h⟩

theorem over : Rows.topSureRow.holds Tryd.pinned (OpenSpec.ofChange Rows.topSureSpec) :=
  OpenClaim.holds_of_wide 4 Tryd.f4 rfl rfl rfl rfl rfl rfl rfl ⟨rfl, rfl, rfl, rfl, rfl⟩ rfl rfl rfl rfl rfl (by kernel_rfl) Tryd.func4 (by kernel_rfl)
    (of_decide_eq_true (by kernel_rfl)) (by unfold Func.isWrapper; rw [if_neg (of_decide_eq_false (by kernel_rfl))]; exact ⟨rfl, rfl⟩)
    (fun os started H enc _ => lifted os started H enc)

theorem card : Rows.TopSureCardSaid :=
  Claim7.holds_tied_plain_at .later [] [.handle] true (true, Rows.topSureCard.stood.harness.2) true
    over (fun _ h => by cases h) (by kernel_rfl) (fun _ h => by cases h) topSure_row_tie rfl ⟨rfl, rfl⟩ (by kernel_rfl) rfl
    (fun f fn hf hfn => by
      obtain rfl : f = 4 := Option.some.inj ((show Tryd.prog.funcNamed "noonmark/noontop.TopSure" = some 4 by kernel_rfl).symm.trans hf) |>.symm
      obtain rfl : fn = Tryd.f4 := (Option.some.inj (Tryd.func4.symm.trans hfn)).symm
      exact ⟨by kernel_rfl, fun j t ht => by
        rw [Tryd.params4] at ht
        exact noStandIn (ps := #[22, 22, 3, 59, 3]) (by kernel_rfl) ht⟩)
    (by kernel_rfl)

end Go.Proofs.YtfjpfkejajgkbaaDoor.lTopSure
