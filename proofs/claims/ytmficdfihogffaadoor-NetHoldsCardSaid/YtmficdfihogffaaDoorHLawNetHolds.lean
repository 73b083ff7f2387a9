/- Proved: noonlaw2.NetHolds answers true for every input and leaves its arguments as they were. Its conditions: none beyond the tied card's own. -/
import Derived.Test.YtmficdfihogffaaDoorHDoor
import Derived.Test.YtmficdfihogffaaDoorHNetN
import Derived.Test.YtmficdfihogffaaDoorHNetD
import Derived.Test.YtmficdfihogffaaDoorHNetX
import Derived.Test.YtmficdfihogffaaDoorHFits
import Derived.Deep.DeepCutAuto
import Derived.Deep.CutBlock
import Derived.Deep.Light
namespace Go.Proofs.YtmficdfihogffaaDoor.lNetHolds
open Go.ChangeShapes Go.WideShapes Go.ChangeAt Go.RowKit
set_option linter.unusedVariables false
set_option linter.unusedSimpArgs false
theorem int_one (z : Int) : ∀ u ∈ intCells z, u.oneCell' = true := by intro u hu; simp [intCells] at hu; subst hu; rfl
set_option maxRecDepth 100000 in
set_option maxHeartbeats 32000000 in
theorem walk (a0 : Option Addr) (n0 c0 : Nat) (z0 : List Int) (a1 : Option Addr) (n1 c1 : Nat) (z1 : List Int) (a2 : Int) (a3 : Option Addr) (n3 c3 : Nat) (z3 : List RAct) (w : World) (h0 : IsInts w a0 n0 c0 z0) (h1 : IsInts w a1 n1 c1 z1) (h2 : -9223372036854775808 ≤ a2 ∧ a2 ≤ 9223372036854775807) (h3 : IsRecs w RAct.cells RAct.ok 3 a3 n3 c3 z3) (hg : HandleAt w) :
    Calls Tryd.prog 4 #[.slice a0 n0 c0, .slice a1 n1 c1, .int .i64 a2, .slice a3 n3 c3] w fun e w' => e = .returned (.bool true) ∧ Below w.heap.size w w' := by
  obtain ⟨i0, hi, hz0, hz1, hz2⟩ := info_parts infoI64
  have CE7 := Lib.hid (fun c (hc : c ≠ 7) w' (hb : Below w.heap.size w w') => show Calls Tryd.prog 7 #[errV c, .int .i64 7] w' fun e w'' => e = .returned (.bool false) ∧ Below w'.heap.size w' w'' by have := Error_any c 7 w' (hg.below hb); rw [show (c == 7) = false by simpa using hc] at this; exact this)
  have CE5 := Lib.hid (fun w' (hb : Below w.heap.size w w') => show Calls Tryd.prog 7 #[.iface 75 (.int .i64 5), .int .i64 5] w' fun e w'' => e = .returned (.bool true) ∧ Below w'.heap.size w' w'' by have := Error_any 5 5 w' (hg.below hb); rw [errV_ne (by decide)] at this; simpa using this)
  have ok2 : RAct.ok ⟨2, 0, 1⟩ := by unfold RAct.ok i64B; simp
  have ok3 : RAct.ok ⟨3, 0, 0⟩ := by unfold RAct.ok i64B; simp
  have H0 := Lib.hid h0
  have H1 := Lib.hid h1
  obtain ⟨l1, l2, l3, l4, l5⟩ := h3
  unfold maxLen at l3
  have L1 := Lib.hid l1
  have L4 := Lib.hid l4
  have L5 := Lib.hid l5
  have hp := Lib.hid h2
  clear h0 h1 h2 hg l1 l4 l5
  go_enter Tryd.func4, Tryd.ntmps4
  go_wp2_with fail
  have I0 : IsInts ((w.alloc (.cells #[.int .i64 0, .int .i64 100] 3)).alloc (.cells #[.int .i64 0, .int .i64 0] 3)) (some ⟨w.heap.size, 0, none⟩) 2 2 [0, 100] := pair_ints ((Blk.new w _ _).alloc _) (by unfold i64B; omega) (by unfold i64B; omega)
  have I1 : IsInts ((w.alloc (.cells #[.int .i64 0, .int .i64 100] 3)).alloc (.cells #[.int .i64 0, .int .i64 0] 3)) (some ⟨w.heap.size + 1, 0, none⟩) 2 2 [0, 0] := pair_ints (T := 3) (by have := Blk.new (w.alloc (.cells #[.int .i64 0, .int .i64 100] 3)) 3 #[.int .i64 0, .int .i64 0]; simpa using this) (by unfold i64B; omega) (by unfold i64B; omega)
  refine (net_New _ _ _ [0, 100] _ _ _ [0, 0] 0 _ I0 I1 ex_new).mono ?_
  rintro e w1 ⟨a, rfl, han, hgw, hN, hb⟩
  have HB := Lib.hid (show Below w.heap.size w w1 from (by repeat (first | with_reducible exact Below.refl _ _ | (with_reducible refine Below.alloc ?_ (by first | omega | (simp; done) | (simp; omega)) _) | (with_reducible refine Below.setCell ?_ (by first | omega | (simp; done) | (simp; omega)) _) | (with_reducible refine Below.drew ?_) | (with_reducible refine below_drewN ?_ _) | (with_reducible assumption) | (with_reducible refine bel_step (by with_reducible assumption) ?_ (by first | omega | (simp; done) | (simp; omega))))))
  have hga : w.heap.size ≤ a.g := by simp at hgw; omega
  have HN := Lib.hid hN
  have d1 := Lib.hid (show NAct a.n [0, 100] [0, 0] 0 [] (fun i => NSt.start 2 i 0) ⟨2, 0, 1⟩ 0 0 exU1 exS0 by rw [han]; exact ex_ask)
  have d2 := Lib.hid (show NAct a.n [0, 100] [0, 0] 0 exU1 exS0 ⟨3, 0, 0⟩ 0 0 exU2 exS1 by rw [han]; exact ex_one)
  have d3 := Lib.hid (show NAct a.n [0, 100] [0, 0] 0 exU2 exS1 ⟨3, 0, 0⟩ 0 0 [] exS2 by rw [han]; exact ex_two)
  have hof := Lib.hid (fun (x : RSpan) (c : Int) (h : OffS a.n (hereAt [0, 100] [0, 0] 0) exS2 0 1 x c) => show c = 0 ∧ x = ⟨98, 104⟩ by rw [han] at h; exact ex_off h)
  clear hgw hN hb I0 I1 han
  go_wp2_with fail
  refine (net_Do a _ _ _ _ _ _ _ _ _ _ _ ⟨2, 0, 1⟩ _ w1 HN.out ok2 (by omega) d1.out).mono ?_
  rintro e w2 ⟨rfl, uv2, hN2, hK2, _⟩
  have HB2 := Lib.hid (HN.out.done HB.out hga hK2)
  have HN2 := Lib.hid hN2
  clear hN2 hK2 HN HB d1
  go_wp2_with fail
  refine (net_Do a _ _ _ _ _ _ _ _ _ _ _ ⟨3, 0, 0⟩ _ w2 HN2.out ok3 (by omega) d2.out).mono ?_
  rintro e w3 ⟨rfl, uv3, hN3, hK3, _⟩
  have HB3 := Lib.hid (HN2.out.done HB2.out hga hK3)
  have HN3 := Lib.hid hN3
  clear hN3 hK3 HN2 HB2 d2
  go_wp2_with fail
  refine (net_Do a _ _ _ _ _ _ _ _ _ _ _ ⟨3, 0, 0⟩ _ w3 HN3.out ok3 (by omega) d3.out).mono ?_
  rintro e w4 ⟨rfl, uv4, hN4, hK4, _⟩
  have HB4 := Lib.hid (HN3.out.done HB3.out hga hK4)
  have HN4 := Lib.hid hN4
  clear hN4 hK4 HN3 HB3 d3
  go_wp2_with fail
  refine (net_Offset a _ _ _ _ _ _ _ _ 0 1 w4 HN4.out).mono ?_
  rintro e w5 ⟨x, c, rfl, hS, hb5⟩
  obtain ⟨rfl, rfl⟩ := hof.out _ _ hS
  have HB5 := Lib.hid (HB4.out.trans (hb5.mono HB4.out.size))
  clear hS hb5 HN4 HB4 hof ok2 ok3 hga
  go_wp2_with fail
  have HBx := Lib.hid (show Below w.heap.size w (w5.alloc (.cells #[.int .i64 98, .int .i64 104] 38)) from HB5.out.alloc HB5.out.size _)
  have hz5 := HBx.out.size
  by_cases e0 : newC z0 z1 a2 = 0
  · obtain ⟨r1, r2, r3, r4, r5⟩ := newC_0 e0
    have hn1 : 1 ≤ n0 := by rw [← H0.out.1]; exact r2
    have hn6 : n0 ≤ 6 := by rw [← H0.out.1]; exact r3
    have LS := Lib.hid (show z0.length = n0 from H0.out.1)
    have LR := Lib.hid (show z1.length = n0 by rw [← H0.out.1]; exact r4)
    have hc0 := H0.out.2.2.1
    have hc00 := H0.out.2.1
    unfold maxLen at hc0
    have HT0 := Lib.hid (new_true (n := n0) e0 LS.out)
    have CN := Lib.hid (net_New a0 n0 c0 z0 a1 n1 c1 z1 a2 _ (H0.out.below HBx.out) (H1.out.below HBx.out) e0)
    clear r1 r2 r3 r4 r5 e0 H0 H1 hp
    refine CN.out.mono ?_
    rintro e w6 ⟨a, rfl, han, hgw, hN, hb6⟩
    subst han
    have HB6 := Lib.hid (HBx.out.trans (hb6.mono hz5))
    have hga : w.heap.size ≤ a.g := by simp at hgw; have := HB5.out.size; omega
    have HN6 := Lib.hid hN
    have hz6 := HB6.out.size
    clear hgw hN hb6 HBx HB5 hz5 CN
    go_wp2_with fail
    go_loopw [14] (fun iv wr => ∃ (k : Nat) (t : Int) (uv : Value) (us : List RLetter) (S : Nat → NSt), iv = .int .i64 k ∧ k ≤ n3 ∧ k ≤ 60 ∧ NetAt wr a z0 z1 a2 t uv us k S ∧ TrueN a.n z0 z1 a2 t us S ∧ Below w.heap.size w wr) (fun iv _ => n3 - (intOf iv).toNat)
    case atStart => exact ⟨0, 0, _, [], _, rfl, by omega, by omega, HN6.out, HT0.out, HB6.out⟩
    case round =>
      obtain ⟨k, t, uv, us, S, rfl, hk, hk60, hN, hT, hB⟩ := hrel
      have HNr := Lib.hid hN
      have HTr := Lib.hid hT
      have HBr := Lib.hid hB
      have HZr := hB.size
      clear hN hT hB HN6 HT0 HB6
      by_cases d1 : k < n3
      · by_cases d2 : k < 60
        · obtain ⟨z, hz⟩ : ∃ z, z3[k]? = some z := ⟨_, List.getElem?_eq_getElem (by rw [L1.out]; omega)⟩
          obtain ⟨b3, off3, rfl, hb3, hc3⟩ := L5.out (by omega)
          have x0 : wr.cell? ⟨b3, off3 + k * 3, none⟩ = some (.int .i64 z.what) := (HBr.out.cell (p := ⟨b3, off3 + k * 3, none⟩) hb3).trans (hc3 k z hz 0 _ rfl)
          have x1 : wr.cell? ⟨b3, off3 + k * 3 + 1, none⟩ = some (.int .i64 z.a) := (HBr.out.cell (p := ⟨b3, off3 + k * 3 + 1, none⟩) hb3).trans (hc3 k z hz 1 _ rfl)
          have x2 : wr.cell? ⟨b3, off3 + k * 3 + 2, none⟩ = some (.int .i64 z.b) := (HBr.out.cell (p := ⟨b3, off3 + k * 3 + 2, none⟩) hb3).trans (hc3 k z hz 2 _ rfl)
          obtain ⟨c, t', us', S', hna⟩ := nact_total a.n z0 z1 t us S z LS.out LR.out HNr.out.has
          obtain ⟨hT', hc7⟩ := nact_true HTr.out LS.out hna
          have CD := Lib.hid (net_Do a z0 z1 a2 t t' uv us us' k S S' z c wr HNr.out (L4.out z (List.mem_of_getElem? hz)) (by omega) hna)
          have CE := Lib.hid (CE7.out c hc7)
          have HT' := Lib.hid hT'
          have q0 : (0 : Int) ≤ (k : Int) := by omega
          have q1 : (k : Int) < (n3 : Int) := by omega
          have q2 : (k : Int) < 60 := by omega
          obtain ⟨E, hE⟩ : ∃ E, errV c = E := ⟨_, rfl⟩
          unfold NetDone at CD
          rw [hE] at CD CE
          clear hc3 hz hna hT' hc7 hE CE7
          go_wp2_with fail
          refine CD.out.mono ?_
          rintro e w7 ⟨rfl, uv', hN7, hK7, _⟩
          have HB7 := Lib.hid (HNr.out.done HBr.out hga hK7)
          have HN7 := Lib.hid hN7
          have hz7 := HB7.out.size
          clear hN7 hK7 CD HNr HBr HTr x0 x1 x2
          go_wp2_with fail
          refine (CE.out w7 HB7.out).mono ?_
          rintro e w8 ⟨rfl, hb8⟩
          have HB8 := Lib.hid (HB7.out.trans (hb8.mono hz7))
          have HN8 := Lib.hid (HN7.out.below hb8)
          have hz8 := HB8.out.size
          clear hb8 HB7 HN7 CE
          go_wp2_with fail
          have hn6' := hn6
          go_loopw [17, 18] (fun lv jv wx => ∃ j : Nat, jv = .int .i64 j ∧ j ≤ a.n ∧ wx.ownsRow w8.heap.size 3 1 lv (shows z0 z1 t' j).length ((shows z0 z1 t' j).flatMap intCells) ∧ Below w8.heap.size w8 wx) (fun _ jv _ => a.n - (intOf jv).toNat)
          case atStart => exact ⟨0, rfl, by omega, own_nil _ _ _ _, Below.refl _ _⟩
          case round =>
            obtain ⟨j, rfl, hj, hO, hBx⟩ := hrel
            have HO := Lib.hid hO
            have HBx := Lib.hid hBx
            have hzx := hBx.size
            clear hO hBx
            by_cases d3 : j < a.n
            · have d4 : (j : Int) < 6 := by omega
              have d5 : (j : Int) < (a.n : Int) := by omega
              have CS := Lib.hid (net_Show a z0 z1 a2 t' uv' us' (k + 1) S' j wr (HN8.out.below HBx.out) d3)
              have HLn := Lib.hid (shows_len z0 z1 t' j)
              have HSu := Lib.hid (shows_succ z0 z1 t' j)
              obtain ⟨R, eR⟩ : ∃ R, hereAt z0 z1 t' j = R := ⟨_, rfl⟩
              obtain ⟨L, eL⟩ : ∃ L, shows z0 z1 t' j = L := ⟨_, rfl⟩
              rw [eR] at CS HSu
              rw [eL] at HO HLn HSu
              have hxl := Lib.hid (show L.length ≤ 6 by have := HLn.out; omega)
              clear eR eL
              go_wp2_with fail
              refine CS.out.mono ?_
              rintro e w9 ⟨rfl, hb9⟩
              have HB9 := Lib.hid hb9
              have hz9 := hb9.size
              have HO9 := Lib.hid (own_below HO.out HB9.out)
              clear hb9 CS HO
              go_wp2_with (at_builtin; refine wpList_append_own _ rfl _ _ 22 rfl w8.heap.size 3 i0 (.int .i64 0) 1 8 Tryd.underlying22 hi hz0 hz1 hz2 rfl (by decide) _ _ _ rfl (HO9.out.alloc _) ⟨w9.heap.size, 0, none⟩ 1 1 _ rfl rfl (cell_new w9 (intCells R) _) (int_one R) (by have := hxl.out; unfold maxLen; omega) (by have := hxl.out; omega) (by simp; omega) ?_; intro v' w10 ho10 hg10 _)
              have HB10 := Lib.hid (show Below w8.heap.size w8 w10 from
                (((HBx.out.trans (HB9.out.mono (by omega))).alloc (by omega) _).grown hg10 (by simp; omega) (fun k hk => (HO9.out.lt k hk).1)))
              have HO10 := Lib.hid (by have := own_snoc intCells (z := R) ho10; rw [← HSu.out] at this; exact this)
              clear ho10 hg10 HO9
              go_wp2_with fail
              go_roundw
              case rel => exact ⟨j + 1, by go_num, by omega, HO10.out, HB10.out⟩
              case measure => go_light; simp [intOf]; omega
            · obtain rfl : j = a.n := by omega
              obtain ⟨A9, n9, c9, e9, hI9⟩ := own_recs intCells i64B 1 (fun _ => rfl) HO.out (fun z hz => by have := HT'.out.shows_ok z hz; unfold i64B; omega)
              obtain rfl : n9 = a.n := by rw [← hI9.1, shows_len]
              have hc9 := hI9.2.2.1
              have hn9 := hI9.2.1
              unfold maxLen at hc9
              have HBw := Lib.hid (HB8.out.trans (HBx.out.mono hz8))
              have hzw := HBw.out.size
              have HNw := Lib.hid (HN8.out.below HBx.out)
              have HIw := Lib.hid hI9
              have CEd := Lib.hid (net_Edges a z0 z1 a2 t' uv' us' (k + 1) S' wr HNw.out)
              rw [HT'.out.netC a.n (Nat.le_refl _), show netE (hereAt z0 z1 t') S' a.n = netL (hereAt z0 z1 t') S' a.n by unfold netE; rw [if_pos (HT'.out.netC a.n (Nat.le_refl _))]] at CEd
              have CF := Lib.hid (fun A11 n11 c11 W hz hc => by have := bounds_Fits (a.n : Int) A11 n11 c11 (netL (hereAt z0 z1 t') S' a.n) A9 a.n c9 (shows z0 z1 t' a.n) W hz hc; rw [HT'.out.fits hn1, HT'.out.fitsC hn1] at this; exact this)
              have CO := Lib.hid (fun (i j : Nat) (hi : i < a.n) (hj : j < a.n) x c (h : OffS a.n (hereAt z0 z1 t') S' i j x c) => HT'.out.offset hn1 hi hj h)
              have CBd := Lib.hid (fun (i : Nat) (hi : i < a.n) => HT'.out.C.bd hi HT'.out.t0 HT'.out.t1)
              rw [e9]
              clear hI9 e9 HO HBx HN8 HB8 hj
              go_wp2_with fail
              refine CEd.out.mono ?_
              rintro e w11 ⟨A11, n11, c11, rfl, hI11, hb11⟩
              have HF := Lib.hid (CF.out A11 n11 c11 w11 hI11 (HIw.out.below hb11))
              have HBe := Lib.hid (HBw.out.trans (hb11.mono hzw))
              have HNe := Lib.hid (HNw.out.below hb11)
              have HIe := Lib.hid (HIw.out.below hb11)
              have hze := HBe.out.size
              clear hI11 hb11 CEd CF HBw HNw HIw
              go_wp2_with fail
              refine HF.out.mono ?_
              rintro e w12 ⟨rfl, hb12⟩
              have HBf := Lib.hid (HBe.out.trans (hb12.mono hze))
              have HNf := Lib.hid (HNe.out.below hb12)
              have HIf := Lib.hid (HIe.out.below hb12)
              have hzf := HBf.out.size
              obtain ⟨bq, oq, rfl, hbq, hcq⟩ := HIf.out.2.2.2.2 hn1
              have HX := Lib.hid (fun (i : Nat) (hi : i < a.n) W (hb : Below w12.heap.size w12 W) => show W.cell? ⟨bq, oq + i, none⟩ = some (.int .i64 (hereAt z0 z1 t' i)) by
                have := (hb.cell (p := ⟨bq, oq + i * 1 + 0, none⟩) hbq).trans (hcq i _ (shows_get hi) 0 _ rfl)
                simpa using this)
              clear hb12 HBe HNe HIe HF HIf hcq
              go_wp2_with fail
              go_loopw [23] (fun iv wx => ∃ i : Nat, iv = .int .i64 i ∧ i ≤ a.n ∧ Below w12.heap.size w12 wx) (fun iv _ => a.n - (intOf iv).toNat)
              case atStart => exact ⟨0, rfl, by omega, Below.refl _ _⟩
              case round =>
                obtain ⟨i, rfl, hi, hBi⟩ := hrel
                have HBi := Lib.hid hBi
                have hzi := hBi.size
                clear hBi
                by_cases g1 : i < a.n
                · have g2 : (i : Int) < (a.n : Int) := by omega
                  go_wp2_with fail
                  go_loopw [24] (fun jv wx => ∃ j : Nat, jv = .int .i64 j ∧ j ≤ a.n ∧ Below w12.heap.size w12 wx) (fun jv _ => a.n - (intOf jv).toNat)
                  case atStart => exact ⟨0, rfl, by omega, HBi.out⟩
                  case round =>
                    obtain ⟨j, rfl, hj, hBj⟩ := hrel
                    have HBj := Lib.hid hBj
                    have hzj := hBj.size
                    clear hBj HBi hzi
                    by_cases g3 : j < a.n
                    · have g4 : (j : Int) < (a.n : Int) := by omega
                      have COf := Lib.hid (net_Offset a z0 z1 a2 t' uv' us' (k + 1) S' i j wr (HNf.out.below HBj.out))
                      have COx := Lib.hid (CO.out i j g1 g3)
                      go_wp2_with fail
                      refine COf.out.mono ?_
                      rintro e w13 ⟨x, c, rfl, hS, hb13⟩
                      have hSS := COx.out x c hS
                      have HB13 := Lib.hid (HBj.out.trans (hb13.mono hzj))
                      have HBa := Lib.hid (HB13.out.alloc (HB13.out.size) (.cells #[.int .i64 x.lo, .int .i64 x.hi] 38))
                      have HBaw := Lib.hid (HBf.out.trans (HBa.out.mono hzf))
                      have hz13 := HB13.out.size
                      have hzaw := HBaw.out.size
                      clear hS hb13 COf COx HBj
                      rcases hSS with rfl | ⟨rfl, hin⟩
                      · rw [errV_ne (by decide)]
                        go_wp2_with fail
                        refine (CE5.out _ HBaw.out).mono ?_
                        rintro e w14 ⟨rfl, hb14⟩
                        have HB14 := Lib.hid (HBa.out.trans (hb14.mono HBa.out.size))
                        clear hb14
                        go_wp2_with fail
                        go_roundw
                        case rel => exact ⟨j + 1, by go_num, by omega, HB14.out⟩
                        case measure => go_light; simp [intOf]; omega
                      · have x0 := HX.out i g1 w13 HB13.out
                        have x1 := HX.out j g3 w13 HB13.out
                        have bd1 := CBd.out i g1
                        have bd2 := CBd.out j g3
                        obtain ⟨ca, eca⟩ : ∃ v, hereAt z0 z1 t' i = v := ⟨_, rfl⟩
                        obtain ⟨cb, ecb⟩ : ∃ v, hereAt z0 z1 t' j = v := ⟨_, rfl⟩
                        rw [eca] at x0 bd1 hin
                        rw [ecb] at x1 bd2 hin
                        have hr : rightB x.lo x.hi = true := by unfold hasB at hin; rw [Bool.and_eq_true] at hin; exact hin.1
                        have CH := Lib.hid (fun w => span_Has x.lo x.hi (cb - ca) w)
                        rw [hin, hr] at CH
                        have Y2 := Lib.hid (IntWalk.i64_in (cb - ca) (by omega))
                        have k0 : (0 : Int) ≤ (i : Int) := by omega
                        have k2 : (0 : Int) ≤ (j : Int) := by omega
                        have k4 : bq < w13.heap.size := by omega
                        clear eca ecb hin hr bd1 bd2
                        obtain ⟨w14, hw14⟩ : ∃ W, w13.alloc (.cells #[.int .i64 x.lo, .int .i64 x.hi] 38) = W := ⟨_, rfl⟩
                        have hb14 : Below w13.heap.size w13 w14 := by rw [← hw14]; exact (Below.refl _ _).alloc (Nat.le_refl _) _
                        have HB14 := Lib.hid (HB13.out.trans (hb14.mono HB13.out.size))
                        have hz14 : w14.heap.size = w13.heap.size + 1 := by rw [← hw14]; simp
                        have y0 : w14.cell? ⟨bq, oq + i, none⟩ = some (.int .i64 ca) := (hb14.cell (p := ⟨bq, oq + i, none⟩) k4).trans x0
                        have y1 : w14.cell? ⟨bq, oq + j, none⟩ = some (.int .i64 cb) := (hb14.cell (p := ⟨bq, oq + j, none⟩) k4).trans x1
                        have hbk : Blk w14 w13.heap.size 38 #[.int .i64 x.lo, .int .i64 x.hi] := by rw [← hw14]; exact Blk.new w13 _ _
                        have y2 := hbk.cell 0
                        have y3 := hbk.cell 1
                        simp at y2 y3
                        have k5 : bq < w14.heap.size := by omega
                        have k6 : w13.heap.size < w14.heap.size := by omega
                        clear x0 x1 hbk hb14 HBa HBaw hzaw
                        go_wp2_with fail
                        clear hw14
                        have y5 := Y2.out
                        go_region_held3 (fun w' => w'.cell? ⟨w13.heap.size, 0, none⟩ = some (.int .i64 x.lo) ∧ w'.cell? ⟨w13.heap.size, 1, none⟩ = some (.int .i64 x.hi) ∧ w'.cell? ⟨bq, oq + j, none⟩ = some (.int .i64 cb) ∧ w'.cell? ⟨bq, oq + i, none⟩ = some (.int .i64 ca)) ((repeat' apply And.intro) <;> assumption)
                          (first | (go_at_call 21; (with_reducible refine (CH.out _).mono ?_); rintro e w15 ⟨rfl, hb15⟩; obtain ⟨hc15, hf15⟩ := bcell hb15; have hz15 := hb15.size; have z2 := (hc15 w13.heap.size 0 k6).trans y2; have z3' := (hc15 w13.heap.size 1 k6).trans y3; have z0' := (hc15 bq (oq + i) k5).trans y0; have z1' := (hc15 bq (oq + j) k5).trans y1; (try simp at hz15)))
                        all_goals
                          clear y5
                          have HB15 := Lib.hid (show Below w12.heap.size w12 _ from (show Below w12.heap.size w12 w14.drew from ⟨HB14.out.os, HB14.out.tape, HB14.out.output, HB14.out.size, HB14.out.block⟩).trans (hb15.mono HB14.out.size))
                          go_wp2_with fail
                          go_roundw
                          case rel => exact ⟨j + 1, by go_num, by omega, HB15.out⟩
                          case measure => go_light; simp [intOf]; omega
                    · obtain rfl : j = a.n := by omega
                      go_wp2_with fail
                      go_roundw
                      case rel => exact ⟨i + 1, by go_num, by omega, HBj.out⟩
                      case measure => go_light; simp [intOf]; omega
                · obtain rfl : i = a.n := by omega
                  have HBz := Lib.hid (HBf.out.trans (HBi.out.mono hzf))
                  have HNz := Lib.hid (HNf.out.below HBi.out)
                  go_wp2_with fail
                  go_roundw
                  case rel => exact ⟨k + 1, t', uv', us', S', by go_num, by omega, by omega, HNz.out, HT'.out, HBz.out⟩
                  case measure => go_light; simp [intOf]; omega
        · obtain rfl : k = 60 := by omega
          go_wp2_with fail
          go_ret
          exact ⟨rfl, HBr.out⟩
      · obtain rfl : k = n3 := by omega
        go_wp2_with fail
        go_ret
        exact ⟨rfl, HBr.out⟩
  · have CN := Lib.hid (net_New_no a0 n0 c0 z0 a1 n1 c1 z1 a2 _ (H0.out.below HBx.out) (H1.out.below HBx.out) hp.out e0)
    obtain ⟨c, hc⟩ : ∃ c, newC z0 z1 a2 = c := ⟨_, rfl⟩
    rw [hc] at CN e0
    clear hc H0 H1 hp
    refine CN.out.mono ?_
    rintro e w6 ⟨rfl, rfl⟩
    go_wp2_with fail
    go_ret
    exact ⟨rfl, HBx.out⟩

set_option maxRecDepth 100000 in
theorem lifted (os : Os) (started : os.Started) (H : Type) (enc : TypeId × Value → H) :
    ReturnsInHanded {} Tryd.checked os 4 .any (fun w args => (Rows.netHoldsSpec.pre enc Tryd.prog Tryd.f4 [] false w args ∧ laidMetH Tryd.prog laidList w) ∧ sizedMet enc Tryd.prog Tryd.f4 (OpenSpec.ofChange Rows.netHoldsSpec) false w args)
      (Rows.netHoldsSpec.post enc Tryd.prog Tryd.f4 false true false false) := by
  refine returnsInHanded_of_change_and (C := Tryd.checked) (X := fun w _ => laidMetH Tryd.prog laidList w) (fun _ _ _ hh h => h.of_heap hh) own started (by kernel_rfl) Tryd.func4
    (ChangeSpec.witness_at (enc := enc) (C := Tryd.checked) (os := os) (X := fun w _ => laidMetH Tryd.prog laidList w) false (laidWorld os) #[.slice none 0 0, .slice none 0 0, .int .i64 0, .slice none 0 0] 8 rfl (by kernel_rfl) (by kernel_rfl) (by kernel_rfl) (by kernel_rfl) (by kernel_rfl) (laidWorld_met os _)) ?_
  intro W base args ds gs before hval0 hW hcnd hreach hL _
  have hval : ∀ (j : Nat) t v, Tryd.f4.params[j]? = some t → args[j]? = some v → Value.okWide Tryd.prog W .any base t v := hval0
  have hW' := hW
  obtain ⟨p, q, hA0, hV, rfl, hfz, hnd⟩ := hW
  have hA : DataW.TrodAll enc Tryd.prog W 0 (fun _ => true) true Tryd.f4.params.toList args.toList ds p := hA0
  rw [Tryd.params4] at hA hval
  obtain ⟨v0, vs0, d0, ds0, p0, q0, hargs, rfl, rfl, g0, r0⟩ := trodAll_cons hA
  obtain ⟨v1, vs1, d1, ds1, p1, q1, rfl, rfl, rfl, g1, r1⟩ := trodAll_cons r0
  obtain ⟨v2, vs2, d2, ds2, p2, q2, rfl, rfl, rfl, g2, r2⟩ := trodAll_cons r1
  obtain ⟨v3, vs3, d3, ds3, p3, q3, rfl, rfl, rfl, g3, r3⟩ := trodAll_cons r2
  obtain ⟨rfl, rfl, rfl⟩ := trodAll_nil r3
  obtain rfl : args = #[v0, v1, v2, v3] := by cases args; simp_all
  have hV2 : DataW.TrodVars enc Tryd.prog W (fun _ => true) [] gs q := hV
  obtain ⟨rfl, rfl⟩ : gs = [] ∧ q = [] := by
    cases gs with
    | nil => exact ⟨rfl, hV2⟩
    | cons g r => exact absurd hV2 (by intro h; cases h)
  have k0 := g0
  have lt0 : ∀ x ∈ p0, x.block < W.heap.size := by obtain ⟨m, hm⟩ := k0; exact DataW.trod_lt m _ _ _ hm
  have rd0 : Tryd.prog.readableRec 22 = true := by kernel_rfl
  have ls0 : 22 < Tryd.prog.types.size := of_decide_eq_true (by kernel_rfl)
  obtain ⟨a0, n0, c0, z0, rfl, h0⟩ := open_Ints (hval 0 22 v0 rfl rfl) g0
  have k1 := g1
  have lt1 : ∀ x ∈ p1, x.block < W.heap.size := by obtain ⟨m, hm⟩ := k1; exact DataW.trod_lt m _ _ _ hm
  have rd1 : Tryd.prog.readableRec 22 = true := by kernel_rfl
  have ls1 : 22 < Tryd.prog.types.size := of_decide_eq_true (by kernel_rfl)
  obtain ⟨a1, n1, c1, z1, rfl, h1⟩ := open_Ints (hval 1 22 v1 rfl rfl) g1
  obtain ⟨a2, rfl, rfl, rfl, u2⟩ := open_int Tryd.underlying3 (hval 2 3 v2 rfl rfl) g2
  have h2 := bounds_i64 u2
  have k3 := g3
  have lt3 : ∀ x ∈ p3, x.block < W.heap.size := by obtain ⟨m, hm⟩ := k3; exact DataW.trod_lt m _ _ _ hm
  have rd3 : Tryd.prog.readableRec 23 = true := by kernel_rfl
  have ls3 : 23 < Tryd.prog.types.size := of_decide_eq_true (by kernel_rfl)
  obtain ⟨a3, n3, c3, z3, rfl, h3⟩ := open_RActs (hval 3 23 v3 rfl rfl) g3
  clear hA0 hval0
  refine (walk a0 n0 c0 z0 a1 n1 c1 z1 a2 a3 n3 c3 z3 W h0 h1 h2 h3 (handle_of_laid hL)).mono fun e W' ⟨he, bel⟩ => ?_
  subst he
  exact ⟨_, rfl, _, _, _, [], _, [], hW', trodAll_mk1 (shut_bool Tryd.underlying4 _), (trodAll_cons_mk (Below.trod laidOut rd0 ls0 k0 bel lt0) (trodAll_cons_mk (Below.trod laidOut rd1 ls1 k1 bel lt1) (trodAll_cons_mk (shut_int Tryd.underlying3 u2) (trodAll_cons_mk (Below.trod laidOut rd3 ls3 k3 bel lt3) trodAll_mk0)))), rfl, bel.frame _, fun h => by cases h⟩

theorem over : Rows.netHoldsRow.holds Tryd.pinned (OpenSpec.ofChange Rows.netHoldsSpec) :=
  OpenClaim.holds_of_wide 4 Tryd.f4 rfl rfl rfl rfl rfl rfl rfl ⟨rfl, rfl, rfl, rfl, rfl⟩ rfl rfl rfl rfl rfl (by kernel_rfl) Tryd.func4 (by kernel_rfl)
    (of_decide_eq_true (by kernel_rfl)) (by unfold Func.isWrapper; rw [if_neg (of_decide_eq_false (by kernel_rfl))]; exact ⟨rfl, rfl⟩)
    (fun os started H enc _ => lifted os started H enc)

theorem card : Rows.NetHoldsCardSaid :=
  Claim7.holds_tied_plain_at .later [] [.handle] true (true, Rows.netHoldsCard.stood.harness.2) true
    over (fun _ h => by cases h) (by kernel_rfl) (fun _ h => by cases h) netHolds_row_tie rfl ⟨rfl, rfl⟩ (by kernel_rfl) rfl
    (fun f fn hf hfn => by
      obtain rfl : f = 4 := Option.some.inj ((show Tryd.prog.funcNamed "noonmark/noonlaw2.NetHolds" = some 4 by kernel_rfl).symm.trans hf) |>.symm
      obtain rfl : fn = Tryd.f4 := (Option.some.inj (Tryd.func4.symm.trans hfn)).symm
      exact ⟨by kernel_rfl, fun j t ht => by
        rw [Tryd.params4] at ht
        exact noStandIn (ps := #[22, 22, 3, 23]) (by kernel_rfl) ht⟩)
    (by kernel_rfl)

end Go.Proofs.YtmficdfihogffaaDoor.lNetHolds
