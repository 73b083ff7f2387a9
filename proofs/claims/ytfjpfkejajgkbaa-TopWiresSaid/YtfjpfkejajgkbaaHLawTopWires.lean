/- Proved: noontop.TopWires answers true for every input and leaves its arguments as they were: what a net tells, and its letters, come back from bytes as they went. Its conditions: none. -/
import Derived.Test.YtfjpfkejajgkbaaHG1
import Derived.Test.YtfjpfkejajgkbaaHNetD
import Derived.Test.YtfjpfkejajgkbaaHTopX
import Derived.Test.YtfjpfkejajgkbaaHNetX
import Derived.Test.YtfjpfkejajgkbaaHTopOne
import Derived.Test.YtfjpfkejajgkbaaHWireB
import Derived.Test.YtfjpfkejajgkbaaHWireL
import Derived.Test.YtfjpfkejajgkbaaHWireR
import Derived.Test.YtfjpfkejajgkbaaHWireRa
import Derived.Test.YtfjpfkejajgkbaaHFits
import Derived.Deep.DeepCutAuto
import Derived.Deep.CutBlock
import Derived.Deep.Light
namespace Go.Proofs.Ytfjpfkejajgkbaa.lTopWires
open Go.ChangeShapes Go.WideShapes Go.ChangeAt Go.RowKit
set_option linter.unusedVariables false
set_option linter.unusedSimpArgs false
set_option maxRecDepth 100000 in
set_option maxHeartbeats 32000000 in
theorem walk (a0 : Option Addr) (n0 c0 : Nat) (z0 : List Int) (a1 : Option Addr) (n1 c1 : Nat) (z1 : List Int) (a2 : Int) (a3 : Option Addr) (n3 c3 : Nat) (z3 : List RAct) (a4 : Int) (a5 : Int) (w : World) (h0 : IsInts w a0 n0 c0 z0) (h1 : IsInts w a1 n1 c1 z1) (h2 : -9223372036854775808 ≤ a2 ∧ a2 ≤ 9223372036854775807) (h3 : IsRecs w RAct.cells RAct.ok 3 a3 n3 c3 z3) (h4 : -9223372036854775808 ≤ a4 ∧ a4 ≤ 9223372036854775807) (h5 : -9223372036854775808 ≤ a5 ∧ a5 ≤ 9223372036854775807) :
    Calls Try.prog 3 #[.slice a0 n0 c0, .slice a1 n1 c1, .int .i64 a2, .slice a3 n3 c3, .int .i64 a4, .int .i64 a5] w fun e w' => e = .returned (.bool true) ∧ Below w.heap.size w w' := by
  have H0 := Lib.hid h0
  have H1 := Lib.hid h1
  obtain ⟨l1, l2, l3, l4, l5⟩ := h3
  unfold maxLen at l3
  have L1 := Lib.hid l1
  have L4 := Lib.hid l4
  have L5 := Lib.hid l5
  have hp := Lib.hid h2
  clear h0 h1 h2 h4 h5 l1 l4 l5
  go_enter Try.func3, Try.ntmps3
  go_wp2_with fail
  refine (top_one _).mono ?_
  rintro e w5 ⟨rfl, hb5⟩
  have HBx := Lib.hid hb5
  have hz5 := hb5.size
  clear hb5
  go_wp2_with fail
  by_cases e0 : newC z0 z1 a2 = 0
  · obtain ⟨r1, r2, r3, r4, r5⟩ := newC_0 e0
    have hn1 : 1 ≤ n0 := by rw [← H0.out.1]; exact r2
    have hn6 : n0 ≤ 6 := by rw [← H0.out.1]; exact r3
    have LS := Lib.hid (show z0.length = n0 from H0.out.1)
    have LR := Lib.hid (show z1.length = n0 by rw [← H0.out.1]; exact r4)
    have hc0 := H0.out.2.2.1
    have hc00 := H0.out.2.1
    unfold maxLen at hc0
    have HT0 := Lib.hid (new_true (n := n0) e0 LS.out)
    have CN := Lib.hid (net_New a0 n0 c0 z0 a1 n1 c1 z1 a2 _ (H0.out.below HBx.out) (H1.out.below HBx.out) e0)
    clear r1 r2 r3 r4 r5 e0 H0 H1 hp
    refine CN.out.mono ?_
    rintro e w6 ⟨a, rfl, han, hgw, hN, hb6⟩
    subst han
    have HB6 := Lib.hid (HBx.out.trans (hb6.mono hz5))
    have hga : w.heap.size ≤ a.g := by omega
    have HN6 := Lib.hid hN
    have hz6 := HB6.out.size
    clear hgw hN hb6 HBx hz5 CN
    go_upto_block 0 with fail
    go_cut [16] (fun _ wx => ∃ (K : Nat) (t : Int) (uv : Value) (us : List RLetter) (S : Nat → NSt), NetAt wx a z0 z1 a2 t uv us K S ∧ TrueN a.n z0 z1 a2 t us S ∧ Below w.heap.size w wx)
    case first =>
      go_wp2_with fail
      go_loopw [16] (fun iv wr => ∃ (k : Nat) (t : Int) (uv : Value) (us : List RLetter) (S : Nat → NSt), iv = .int .i64 k ∧ k ≤ n3 ∧ k ≤ 60 ∧ NetAt wr a z0 z1 a2 t uv us k S ∧ TrueN a.n z0 z1 a2 t us S ∧ Below w.heap.size w wr) (fun iv _ => n3 - (intOf iv).toNat)
      case atStart => exact ⟨0, 0, _, [], _, rfl, by omega, by omega, HN6.out, HT0.out, HB6.out⟩
      case round =>
        obtain ⟨k, t, uv, us, S, rfl, hk, hk60, hN, hT, hB⟩ := hrel
        have HNr := Lib.hid hN
        have HTr := Lib.hid hT
        have HBr := Lib.hid hB
        have HZr := hB.size
        clear hN hT hB HN6 HT0 HB6
        by_cases d1 : k < n3
        · by_cases d2 : k < 60
          · obtain ⟨z, hz⟩ : ∃ z, z3[k]? = some z := ⟨_, List.getElem?_eq_getElem (by rw [L1.out]; omega)⟩
            obtain ⟨b3, off3, rfl, hb3, hc3⟩ := L5.out (by omega)
            have x0 : wr.cell? ⟨b3, off3 + k * 3, none⟩ = some (.int .i64 z.what) := (HBr.out.cell (p := ⟨b3, off3 + k * 3, none⟩) hb3).trans (hc3 k z hz 0 _ rfl)
            have x1 : wr.cell? ⟨b3, off3 + k * 3 + 1, none⟩ = some (.int .i64 z.a) := (HBr.out.cell (p := ⟨b3, off3 + k * 3 + 1, none⟩) hb3).trans (hc3 k z hz 1 _ rfl)
            have x2 : wr.cell? ⟨b3, off3 + k * 3 + 2, none⟩ = some (.int .i64 z.b) := (HBr.out.cell (p := ⟨b3, off3 + k * 3 + 2, none⟩) hb3).trans (hc3 k z hz 2 _ rfl)
            obtain ⟨c, t', us', S', hna⟩ := nact_total a.n z0 z1 t us S z LS.out LR.out HNr.out.has
            obtain ⟨hT', hc7⟩ := nact_true HTr.out LS.out hna
            have CD := Lib.hid (net_Do a z0 z1 a2 t t' uv us us' k S S' z c wr HNr.out (L4.out z (List.mem_of_getElem? hz)) (by omega) hna)
            have HT' := Lib.hid hT'
            have q0 : (0 : Int) ≤ (k : Int) := by omega
            have q1 : (k : Int) < (n3 : Int) := by omega
            have q2 : (k : Int) < 60 := by omega
            clear hc3 hz hna hT' hc7
            go_wp2_with fail
            refine CD.out.mono ?_
            rintro e w7 ⟨rfl, uv', hN7, hK7, _⟩
            have HB7 := Lib.hid (HNr.out.done HBr.out hga hK7)
            have HN7 := Lib.hid hN7
            have hz7 := HB7.out.size
            clear hN7 hK7 CD HNr HBr HTr x0 x1 x2
            go_wp2_with fail
            refine (net_Offset a _ _ _ _ _ _ _ _ a4 a5 w7 HN7.out).mono ?_
            rintro e w8 ⟨x, c', rfl, hS, hb8⟩
            have HX := Lib.hid (HT'.out.offset_in hn1 hS)
            have HB8 := Lib.hid (HB7.out.trans (hb8.mono hz7))
            have HN8 := Lib.hid (HN7.out.below hb8)
            have hz8 := HB8.out.size
            clear hS hb8 HB7 HN7 hz7
            rcases HX.out with h0 | ⟨rfl, i, j, -, -, -, -, hin⟩
            · rw [errV_ne h0]
              clear HX h0
              go_wp2_with fail
              go_roundw
              case rel => exact ⟨k + 1, t', uv', us', S', by go_num, by omega, by omega, HN8.out.below ((Below.refl _ _).alloc (Nat.le_refl _) _), HT'.out, HB8.out.alloc hz8 _⟩
              case measure => go_light; simp [intOf]; omega
            · have hr : rightB x.lo x.hi = true := by unfold hasB at hin; rw [Bool.and_eq_true] at hin; exact hin.1
              obtain ⟨T, eT⟩ : ∃ T, spanS x.lo x.hi = T := ⟨_, rfl⟩
              have hT : T = ⟨(spanB x.lo x.hi).toArray⟩ := by rw [← eT]; unfold spanS; rw [if_pos hr]
              have sz : T.size = 12 := by rw [hT]; rfl
              have X3 := Lib.hid (fun W => by
                have := wire_Span x.lo x.hi W
                rw [eT, hr] at this
                exact this)
              have X4 := Lib.hid (fun W => by
                have := wire_ReadSpan T W (by rw [sz]; unfold maxLen; omega)
                rw [show T.data.toList = spanB x.lo x.hi by rw [hT], readS_spanB hr] at this
                exact this)
              clear hr eT hT sz hin HX
              go_wp2_with fail
              refine (X3.out _).mono ?_
              rintro e w9 ⟨rfl, hb9⟩
              have hb89 := ((Below.refl w8.heap.size w8).alloc (Nat.le_refl _) _).trans (hb9.mono (by simp))
              have hbk := (Blk.new w8 _ _).below hb9 (by simp)
              have v0 := hbk.cell 0
              have v1 := hbk.cell 1
              simp at v0 v1
              have HB9 := Lib.hid (HB8.out.trans (hb89.mono hz8))
              have HN9 := Lib.hid (HN8.out.below hb89)
              have hz9 := HB9.out.size
              have k5 := hbk.lt
              clear hb9 hb89 HB8 HN8 hbk X3
              go_wp2_with fail
              refine (X4.out _).mono ?_
              rintro e w10 ⟨rfl, hb10⟩
              have y0 := (hb10.cell (p := ⟨w8.heap.size, 0, none⟩) k5).trans v0
              have y1 := (hb10.cell (p := ⟨w8.heap.size, 1, none⟩) k5).trans v1
              have HB10 := Lib.hid (HB9.out.trans (hb10.mono hz9))
              have HN10 := Lib.hid (HN9.out.below hb10)
              have hz10 := HB10.out.size
              have k6 : w8.heap.size < w10.heap.size := Nat.lt_of_lt_of_le k5 hb10.size
              clear hb10 HB9 HN9 X4 v0 v1 k5
              go_wp2_with fail
              go_roundw
              case rel => exact ⟨k + 1, t', uv', us', S', by go_num, by omega, by omega, HN10.out.below ((Below.refl _ _).alloc (Nat.le_refl _) _), HT'.out, HB10.out.alloc hz10 _⟩
              case measure => go_light; simp [intOf]; omega
          · obtain rfl : k = 60 := by omega
            go_wp2_with fail
            go_meet
            case rel => exact ⟨_, _, _, _, _, HNr.out, HTr.out, HBr.out⟩
        · obtain rfl : k = n3 := by omega
          go_wp2_with fail
          go_meet
          case rel => exact ⟨_, _, _, _, _, HNr.out, HTr.out, HBr.out⟩
    case rest =>
    obtain ⟨K, t, uv, us, S, hN, hT, hB⟩ := hcut
    obtain ⟨w7, hw7⟩ : ∃ x : World, x = wc := ⟨_, rfl⟩
    subst hw7
    have HB7 := Lib.hid hB
    have hz7 := hB.size
    have CEd := Lib.hid (net_Edges a z0 z1 a2 t uv us K S w7 hN)
    rw [hT.netC a.n (Nat.le_refl _), show netE (hereAt z0 z1 t) S a.n = netL (hereAt z0 z1 t) S a.n by unfold netE; rw [if_pos (hT.netC a.n (Nat.le_refl _))]] at CEd
    have HE0 := Lib.hid (hT.edgesC hn1)
    have HED := Lib.hid (fun e he => hT.edge (e := e) he)
    obtain ⟨L, eL⟩ : ∃ L, netL (hereAt z0 z1 t) S a.n = L := ⟨_, rfl⟩
    rw [eL] at CEd HE0
    simp only [eL] at HED
    clear hN hT hB HN6 HT0 HB6 eL
    go_wp2_with fail
    refine CEd.out.mono ?_
    rintro e w8 ⟨A, n, c, rfl, hI, hb8⟩
    have HB8 := Lib.hid (HB7.out.trans (hb8.mono hz7))
    have hz8 := HB8.out.size
    have HI := Lib.hid hI
    have CC := Lib.hid (by have := bounds_Check (a.n : Int) A n c L w8 hI; rw [HE0.out] at this; exact this)
    have hn8 := hI.2.1
    have hc8 := hI.2.2.1
    have hl8 : L.length = n := hI.1
    have h40 : n ≤ 40 := by have := (edgesC_0 HE0.out).2.2.1; omega
    unfold maxLen at hc8
    clear hI hb8 CEd HB7
    go_wp2_with fail
    refine CC.out.mono ?_
    rintro e w9 ⟨rfl, hb9⟩
    have HI9 := Lib.hid (HI.out.below hb9)
    have HB9 := Lib.hid (HB8.out.trans (hb9.mono hz8))
    have hz9 := HB9.out.size
    clear hb9 HI HB8 CC
    go_wp2_with fail
    go_loopw [24] (fun iv wx => ∃ i : Nat, iv = .int .i64 i ∧ i ≤ n ∧ Below w9.heap.size w9 wx) (fun iv _ => n - (intOf iv).toNat)
    case atStart => exact ⟨0, rfl, by omega, Below.refl _ _⟩
    case round =>
      obtain ⟨i, rfl, hi, hBi⟩ := hrel
      have HBi := Lib.hid hBi
      have hzi := hBi.size
      clear hBi
      by_cases g1 : i < n
      · have g2 : (i : Int) < (n : Int) := by omega
        have g3 : (0 : Int) ≤ (i : Int) := by omega
        obtain ⟨bq, oq, rfl, hbq, hcq⟩ := HI9.out.2.2.2.2 (by omega)
        obtain ⟨z, hz⟩ : ∃ z, L[i]? = some z := ⟨_, List.getElem?_eq_getElem (by omega)⟩
        have x0 : wr.cell? ⟨bq, oq + i * 4, none⟩ = some (.int .i64 z.a) := (HBi.out.cell (p := ⟨bq, oq + i * 4, none⟩) hbq).trans (hcq i z hz 0 _ rfl)
        have x1 : wr.cell? ⟨bq, oq + i * 4 + 1, none⟩ = some (.int .i64 z.b) := (HBi.out.cell (p := ⟨bq, oq + i * 4 + 1, none⟩) hbq).trans (hcq i z hz 1 _ rfl)
        obtain ⟨i', j', e1, e2, hi', hj', hne, _⟩ := HED.out z (List.mem_of_getElem? hz)
        have h0 : letC ⟨z.a, z.b, false, 0, 0, (i : Int)⟩ = 0 := by
          rw [letC_good ⟨by dsimp only; omega, by dsimp only; omega, by dsimp only; omega, by dsimp only; omega, by dsimp only; omega, by dsimp only; omega, by dsimp only; omega, by dsimp only; omega, by dsimp only; omega, by dsimp only; omega⟩]
          rw [if_neg]
          dsimp only
          omega
        obtain ⟨T, eT⟩ : ∃ T, letS ⟨z.a, z.b, false, 0, 0, (i : Int)⟩ = T := ⟨_, rfl⟩
        have hTl : T.data.toList = letB ⟨z.a, z.b, false, 0, 0, (i : Int)⟩ := by rw [← eT]; unfold letS; rw [if_pos h0]
        obtain ⟨za, eza⟩ : ∃ v, z.a = v := ⟨_, rfl⟩
        obtain ⟨zb, ezb⟩ : ∃ v, z.b = v := ⟨_, rfl⟩
        have X3 := Lib.hid (fun W => by
          have := wire_Letter ⟨z.a, z.b, false, 0, 0, (i : Int)⟩ W
          rw [eT, h0] at this
          rw [eza, ezb] at this
          exact this)
        have X4 := Lib.hid (fun W => by
          have := wire_ReadLetter T W
          rw [hTl, readL_letB h0, readC_letB h0] at this
          rw [eza, ezb] at this
          exact this)
        rw [eza] at x0
        rw [ezb] at x1
        have kb : bq < wr.heap.size := by omega
        clear hcq hz e1 e2 hi' hj' hne h0 eT hTl eza ezb
        go_wp2_with fail
        go_region_held3 (fun w' => w'.cell? ⟨bq, oq + i * 4, none⟩ = some (.int .i64 za) ∧ w'.cell? ⟨bq, oq + i * 4 + 1, none⟩ = some (.int .i64 zb)) ((repeat' apply And.intro) <;> assumption)
          (first | (go_at_call 13; (with_reducible refine (X3.out _).mono ?_); rintro e w10 ⟨rfl, hb10⟩; obtain ⟨hc10, hf10⟩ := bcell hb10; have hz10 := hb10.size; have y0 := (hc10 bq (oq + i * 4) kb).trans x0; have y1 := (hc10 bq (oq + i * 4 + 1) kb).trans x1; (try simp at hz10)))
        all_goals
          have HB10 := Lib.hid (show Below w9.heap.size w9 _ from (show Below w9.heap.size w9 wr.drew from ⟨HBi.out.os, HBi.out.tape, HBi.out.output, HBi.out.size, HBi.out.block⟩).trans (hb10.mono hzi))
          have hz10 := HB10.out.size
          clear hc10 hf10 hb10 X3
          go_wp2_with fail
          refine (X4.out _).mono ?_
          rintro e w11 ⟨rfl, hb11⟩
          have v0 := (hb11.cell (p := ⟨bq, oq + i * 4, none⟩) (Nat.lt_of_lt_of_le hbq hz10)).trans y0
          have v1 := (hb11.cell (p := ⟨bq, oq + i * 4 + 1, none⟩) (Nat.lt_of_lt_of_le hbq hz10)).trans y1
          have HB11 := Lib.hid (HB10.out.trans (hb11.mono hz10))
          have hz11 := HB11.out.size
          clear hb11 y0 y1 X4 x0 x1 HB10
          obtain ⟨w12, hw12⟩ : ∃ W, w11.alloc (.cells #[.int .i64 za, .int .i64 zb, .bool false, .int .i64 0, .int .i64 0, .int .i64 i] 48) = W := ⟨_, rfl⟩
          have hb12 : Below w11.heap.size w11 w12 := by rw [← hw12]; exact (Below.refl _ _).alloc (Nat.le_refl _) _
          have HB12 := Lib.hid (HB11.out.trans (hb12.mono hz11))
          have hbk : Blk w12 w11.heap.size 48 #[.int .i64 za, .int .i64 zb, .bool false, .int .i64 0, .int .i64 0, .int .i64 i] := by rw [← hw12]; exact Blk.new w11 _ _
          have y0 := hbk.cell 0
          have y1 := hbk.cell 1
          have y5 := hbk.cell 5
          simp at y0 y1 y5
          have u0 := (hb12.cell (p := ⟨bq, oq + i * 4, none⟩) (Nat.lt_of_lt_of_le hbq hz11)).trans v0
          have u1 := (hb12.cell (p := ⟨bq, oq + i * 4 + 1, none⟩) (Nat.lt_of_lt_of_le hbq hz11)).trans v1
          have t0 : (za != za) = false := by simp
          have t1 : (zb != zb) = false := by simp
          have t2 : ((i : Int) != (i : Int)) = false := by simp
          have k8 : bq < w12.heap.size := Nat.lt_of_lt_of_le hbq HB12.out.size
          have k9 : w11.heap.size < w12.heap.size := hbk.lt
          clear hb12 hbk v0 v1 HB11
          go_wp2_with fail
          clear hw12
          go_quiet (fail)
          go_wp2_with fail
          go_roundw
          case rel => exact ⟨i + 1, by go_num, by omega, ⟨HB12.out.os, HB12.out.tape, HB12.out.output, HB12.out.size, HB12.out.block⟩⟩
          case measure => go_light; simp [intOf]; omega
      · obtain rfl : i = n := by omega
        go_wp2_with fail
        go_ret
        exact ⟨rfl, HB9.out.trans (HBi.out.mono hz9)⟩
  · have CN := Lib.hid (net_New_no a0 n0 c0 z0 a1 n1 c1 z1 a2 _ (H0.out.below HBx.out) (H1.out.below HBx.out) hp.out e0)
    obtain ⟨c, hc⟩ : ∃ c, newC z0 z1 a2 = c := ⟨_, rfl⟩
    rw [hc] at CN e0
    clear hc H0 H1 hp
    refine CN.out.mono ?_
    rintro e w6 ⟨rfl, rfl⟩
    go_wp2_with fail
    go_ret
    exact ⟨rfl, HBx.out⟩

set_option maxRecDepth 100000 in
theorem lifted (os : Os) (started : os.Started) (H : Type) (enc : TypeId × Value → H) :
    ReturnsInHanded {} Try.checked os 3 .any (Rows.topWiresSpec.pre6 enc Try.prog Try.f3 Rows.topWiresRow.domain false) (Rows.topWiresSpec.post enc Try.prog Try.f3 false true false false) := by
  refine returnsInHanded_of_change (C := Try.checked) own started (by kernel_rfl) Try.func3
    (ChangeSpec.witness6 (enc := enc) (C := Try.checked) false ⟨#[], #[.slice none 0 0, .slice none 0 0, .int .i64 0, .slice none 0 0, .int .i64 0, .int .i64 0], []⟩ 8 (by kernel_rfl) (by kernel_rfl) (by kernel_rfl) (by kernel_rfl)) ?_
  intro W base args ds gs before hval0 hW hcnd hreach
  have hval : ∀ (j : Nat) t v, Try.f3.params[j]? = some t → args[j]? = some v → Value.okWide Try.prog W .any base t v := hval0
  have hW' := hW
  obtain ⟨p, q, hA0, hV, rfl, hfz, hnd⟩ := hW
  have hA : DataW.TrodAll enc Try.prog W 0 (fun _ => true) true Try.f3.params.toList args.toList ds p := hA0
  rw [Try.params3] at hA hval
  obtain ⟨v0, vs0, d0, ds0, p0, q0, hargs, rfl, rfl, g0, r0⟩ := trodAll_cons hA
  obtain ⟨v1, vs1, d1, ds1, p1, q1, rfl, rfl, rfl, g1, r1⟩ := trodAll_cons r0
  obtain ⟨v2, vs2, d2, ds2, p2, q2, rfl, rfl, rfl, g2, r2⟩ := trodAll_cons r1
  obtain ⟨v3, vs3, d3, ds3, p3, q3, rfl, rfl, rfl, g3, r3⟩ := trodAll_cons r2
  obtain ⟨v4, vs4, d4, ds4, p4, q4, rfl, rfl, rfl, g4, r4⟩ := trodAll_cons r3
  obtain ⟨v5, vs5, d5, ds5, p5, q5, rfl, rfl, rfl, g5, r5⟩ := trodAll_cons r4
  obtain ⟨rfl, rfl, rfl⟩ := trodAll_nil r5
  obtain rfl : args = #[v0, v1, v2, v3, v4, v5] := by cases args; simp_all
  obtain ⟨rfl, rfl⟩ := trodVars_none hV
  have k0 := g0
  have lt0 : ∀ x ∈ p0, x.block < W.heap.size := by obtain ⟨m, hm⟩ := k0; exact DataW.trod_lt m _ _ _ hm
  have rd0 : Try.prog.readableRec 22 = true := by kernel_rfl
  have ls0 : 22 < Try.prog.types.size := of_decide_eq_true (by kernel_rfl)
  obtain ⟨a0, n0, c0, z0, rfl, h0⟩ := open_Ints (hval 0 22 v0 rfl rfl) g0
  have k1 := g1
  have lt1 : ∀ x ∈ p1, x.block < W.heap.size := by obtain ⟨m, hm⟩ := k1; exact DataW.trod_lt m _ _ _ hm
  have rd1 : Try.prog.readableRec 22 = true := by kernel_rfl
  have ls1 : 22 < Try.prog.types.size := of_decide_eq_true (by kernel_rfl)
  obtain ⟨a1, n1, c1, z1, rfl, h1⟩ := open_Ints (hval 1 22 v1 rfl rfl) g1
  obtain ⟨a2, rfl, rfl, rfl, u2⟩ := open_int Try.underlying3 (hval 2 3 v2 rfl rfl) g2
  have h2 := bounds_i64 u2
  have k3 := g3
  have lt3 : ∀ x ∈ p3, x.block < W.heap.size := by obtain ⟨m, hm⟩ := k3; exact DataW.trod_lt m _ _ _ hm
  have rd3 : Try.prog.readableRec 23 = true := by kernel_rfl
  have ls3 : 23 < Try.prog.types.size := of_decide_eq_true (by kernel_rfl)
  obtain ⟨a3, n3, c3, z3, rfl, h3⟩ := open_RActs (hval 3 23 v3 rfl rfl) g3
  obtain ⟨a4, rfl, rfl, rfl, u4⟩ := open_int Try.underlying3 (hval 4 3 v4 rfl rfl) g4
  have h4 := bounds_i64 u4
  obtain ⟨a5, rfl, rfl, rfl, u5⟩ := open_int Try.underlying3 (hval 5 3 v5 rfl rfl) g5
  have h5 := bounds_i64 u5
  clear hA0 hval0
  refine (walk a0 n0 c0 z0 a1 n1 c1 z1 a2 a3 n3 c3 z3 a4 a5 W h0 h1 h2 h3 h4 h5).mono fun e W' ⟨he, bel⟩ => ?_
  subst he
  exact ⟨_, rfl, _, _, _, [], _, [], hW', trodAll_mk1 (shut_bool Try.underlying4 _), (trodAll_cons_mk (Below.trod laidOut rd0 ls0 k0 bel lt0) (trodAll_cons_mk (Below.trod laidOut rd1 ls1 k1 bel lt1) (trodAll_cons_mk (shut_int Try.underlying3 u2) (trodAll_cons_mk (Below.trod laidOut rd3 ls3 k3 bel lt3) (trodAll_cons_mk (shut_int Try.underlying3 u4) (trodAll_cons_mk (shut_int Try.underlying3 u5) trodAll_mk0)))))), rfl, bel.frame _, fun h => by cases h⟩

theorem over : Rows.topWiresRow.holds Try.pinned (OpenSpec.ofChange Rows.topWiresSpec) :=
  OpenClaim.holds_of_wide 3 Try.f3 rfl rfl rfl rfl rfl rfl rfl ⟨rfl, rfl, rfl, rfl, rfl⟩ rfl rfl rfl rfl rfl (by kernel_rfl) Try.func3 (by kernel_rfl)
    (of_decide_eq_true (by kernel_rfl)) (by unfold Func.isWrapper; rw [if_neg (of_decide_eq_false (by kernel_rfl))]; exact ⟨rfl, rfl⟩)
    (fun os started H enc _ => lifted os started H enc)

/-- the statement -/
theorem proved : Rows.TopWiresSaid := over

end Go.Proofs.Ytfjpfkejajgkbaa.lTopWires
