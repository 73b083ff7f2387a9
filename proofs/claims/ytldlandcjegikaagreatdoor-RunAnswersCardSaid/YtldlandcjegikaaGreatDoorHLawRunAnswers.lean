/- Proved: the tied card of noonlaw3.RunAnswers: it answers true for every input and leaves its arguments as they were. The card's own conditions: the listed variables hold what the program's text lays there. -/
import Derived.Test.YtldlandcjegikaaGreatDoorHUptoR
import Derived.Test.YtldlandcjegikaaGreatDoorHRunK
import Derived.Test.YtldlandcjegikaaGreatDoorHRLine
import Derived.Deep.DeepCutAuto
namespace Go.Proofs.YtldlandcjegikaaGreatDoor.lRunAnswers
open Go.ChangeShapes Go.WideShapes Go.ChangeAt Go.RowKit
open Go.ChangeMaps (open_string)
set_option linter.unusedVariables false
set_option linter.unusedSimpArgs false
theorem snet_low {W0 w : World} {b : SAd} {A1 A2 : Option Addr} {c1 c2 : Nat} {p t : Int} {uv : Value} {us : List RLetter} {S : Nat → NSt} (h : SNetAt W0 w b A1 A2 c1 c2 p t uv us S) : ∀ k, SMine b uv k → W0.heap.size ≤ k := by
 intro k e
 have h1 := h.W.Mo
 have h2 := h.W.MB
 have h3 := h.W.Bw
 rcases e with e | e | ⟨i, hi, e⟩
 ·omega
 ·have := h.W.low k e; omega
 ·have := h.g i hi; omega
set_option maxRecDepth 100000 in
set_option maxHeartbeats 8000000 in
theorem walk (a0 : ByteArray) (w : World) (h0 : a0.size ≤ maxLen) (HR : RunW w) :
  Calls Tryz.prog 3 #[.string a0] w fun e w' => e = .returned (.bool true) ∧ Below w.heap.size w w' := by
 have HW := Lib.hid HR
 clear HR
 by_cases hl : 3000 < a0.size
 ·have CL := Lib.hid (fun w => run_long a0 hl w)
  have hl2 : (3000 : Int) < (a0.size : Int) := by omega
  go_enter Tryz.func3, Tryz.ntmps3
  go_wp2_with fail
  refine (CL.out _).mono ?_
  rintro e w1 ⟨rfl, hb1⟩
  go_wp2_with fail
  go_ret
  exact ⟨rfl, hb1⟩
 ·have hl2 : ¬ (3000 : Int) < (a0.size : Int) := by omega
  have hl3 : a0.size ≤ 3000 := by omega
  have CR := Lib.hid (fun w HR => run_Run a0 hl3 w HR)
  have CC := Lib.hid (fun W => show Calls Tryz.prog 7 #[.string a0, .int .u8 10] W _ from r1_Cut a0 10 W (by omega))
  have CM := Lib.hid (fun (A A2 : Option Addr) w (h : IsInts w A 3 3 ssR) (h2 : IsInts w A2 3 3 rsR) => snet_New A 3 3 ssR A2 3 3 rsR 100 w h h2 (by decide))
  obtain ⟨init, x, hP, hx⟩ := lines_cut a0.data.toList
  have hpl := piece_le 10 _ a0.data.toList (Nat.le_refl _)
  have hlen := pieces_le 10 a0.data.toList
  rw [str_len2] at hlen hpl
  rw [hP] at CC hpl hlen
  obtain ⟨ls, els⟩ : ∃ ls, linesOf a0.data.toList = ls := ⟨_, rfl⟩
  rw [els] at CR hx
  have HPl := Lib.hid hpl
  obtain ⟨m, em⟩ : ∃ m, init.length = m := ⟨_, rfl⟩
  have hm : m ≤ 3000 := by simp at hlen; omega
  have EM := Lib.hid em
  have HX := Lib.hid hx
  clear hx hP hpl hlen els em
  go_enter Tryz.func3, Tryz.ntmps3
  go_wp2_with fail
  refine (CR.out _ HW.out).mono ?_
  rintro e w1 ⟨os, t1, us1, S1, hT, rfl, hb1⟩
  have HT := Lib.hid hT
  have HOL := Lib.hid hT.len
  have HB1 := Lib.hid hb1
  have hz1 := hb1.size
  obtain ⟨G, eG⟩ : ∃ G : ByteArray, (⟨(outL os).toArray⟩ : ByteArray) = G := ⟨_, rfl⟩
  rw [eG]
  have EG := Lib.hid eG
  clear hT hb1 eG
  go_wp2_with fail
  refine (CC.out _).mono ?_
  rintro e w2 ⟨v, rfl, ho, hb2⟩
  obtain ⟨g, cap, rfl, hg0, hg1, hcw, hcm2, hcell⟩ := own_strs ho (by simp)
  unfold maxLen at hcm2
  have HB2 := Lib.hid (HB1.out.trans (hb2.mono hz1))
  have hz2 := HB2.out.size
  have yx : w2.cell? ⟨g, m, none⟩ = some (.string ⟨x.toArray⟩) := hcell m x (by rw [← EM.out]; simp)
  have HCell := Lib.hid hcell
  obtain ⟨n, en⟩ : ∃ n, (init ++ [x]).length = n := ⟨_, rfl⟩
  have hn : n = m + 1 := by rw [← en, ← EM.out]; simp
  rw [en] at hcw ⊢
  subst hn
  clear ho hb2 hcell en CC CR
  have v1 : IntKind.i64.wrap ((m : Int) + 1 - 1) = (m : Int) := by rw [show (m : Int) + 1 - 1 = (m : Int) by omega]; exact IntWalk.i64_in _ (by omega)
  obtain ⟨X0, hX0⟩ : ∃ X0, (w2.alloc (.cells #[.int .i64 0, .int .i64 1000, .int .i64 50] 3)).alloc (.cells #[.int .i64 100, .int .i64 (-100), .int .i64 0] 3) = X0 := ⟨_, rfl⟩
  have I1 := Lib.hid (show IsInts X0 (some ⟨w2.heap.size, 0, none⟩) 3 3 ssR by
   rw [← hX0]
   exact new_ints (by rfl) (by simp; omega) (by unfold ssR; simp [i64B]) (by simp) (by simp) (by simp))
  have I2 := Lib.hid (show IsInts X0 (some ⟨w2.heap.size + 1, 0, none⟩) 3 3 rsR by
   rw [← hX0]
   exact new_ints (by rfl) (by simp) (by unfold rsR; simp [i64B]) (by simp) (by simp) (by simp))
  have HB20 := Lib.hid (show Below w2.heap.size w2 X0 by rw [← hX0]; exact BeL)
  have HB0 := Lib.hid (HB2.out.trans (HB20.out.mono hz2))
  have hgX : g < X0.heap.size := Nat.lt_of_lt_of_le hg1 HB20.out.size
  have tail : ∃ nn : Nat, nn ≤ 3001 ∧ ls.length = nn ∧ (∀ (i : Nat) z, ls[i]? = some z → w2.cell? ⟨g, i, none⟩ = some (.string ⟨z.toArray⟩) ∧ z.length ≤ 3000) ∧ ((x = [] ∧ nn = m) ∨ (x ≠ [] ∧ nn = m + 1)) := by
   rcases HX.out with ⟨e1, e2⟩ | ⟨e1, e2⟩
   ·refine ⟨m, by omega, by rw [e2]; exact EM.out, fun i z hz => ?_, .inl ⟨e1, rfl⟩⟩
    have hz' : (init ++ [x])[i]? = some z := by rw [List.getElem?_append_left (by rw [e2] at hz; exact (List.getElem?_eq_some_iff.1 hz).1), ← e2]; exact hz
    exact ⟨HCell.out i z hz', Nat.le_trans (HPl.out z (List.mem_of_getElem? hz')) hl3⟩
   ·refine ⟨m + 1, by omega, by rw [e2]; simp [EM.out], fun i z hz => ?_, .inr ⟨e1, rfl⟩⟩
    rw [e2] at hz
    exact ⟨HCell.out i z hz, Nat.le_trans (HPl.out z (List.mem_of_getElem? hz)) hl3⟩
  obtain ⟨nn, hnn, hls, hcl, hc⟩ := tail
  have HLs := Lib.hid hls
  have HCl := Lib.hid hcl
  clear hls hcl HCell HX EM HPl
  have qx : ∀ X : ByteArray, X.toList = X.data.toList := fun X => ByteArray.toList_eq X
  obtain ⟨X, eX⟩ : ∃ X : ByteArray, (⟨x.toArray⟩ : ByteArray) = X := ⟨_, rfl⟩
  have hXl : X.data.toList = x := by rw [← eX]
  rw [eX] at yx
  rcases hc with ⟨hx0, hnm⟩ | ⟨hxn, hnm⟩ <;> subst hnm
  ·have qx0 : X.toList.isEmpty = true := by rw [qx, hXl, hx0]; rfl
   clear hx0
   clear qx hXl eX
   go_wp2_with fail
   refine (CM.out _ _ _ I1.out I2.out).mono ?_
   rintro e w3 ⟨b, rfl, h3, hN, hb3⟩
   have HN := Lib.hid hN
   have H3 := Lib.hid h3
   have HB3 := Lib.hid hb3
   clear hX0 CM hN h3 hb3 yx qx0 v1
   go_wp2_with fail
   go_loopw [6, 7] (fun sv iv wr => ∃ k : Nat, iv = .int .i64 k ∧ sv = .string ⟨(outL (os.take k)).toArray⟩ ∧ k ≤ nn ∧ (∃ t uv us S, Trace 0 [] (fun i => NSt.start 3 i 100) (ls.take k) (os.take k) t us S ∧ SNetAt X0 wr b (some ⟨w2.heap.size, 0, none⟩) (some ⟨w2.heap.size + 1, 0, none⟩) 3 3 100 t uv us S) ∧ Below X0.heap.size X0 wr) (fun _ iv _ => nn - (intOf iv).toNat)
   case atStart => exact ⟨0, rfl, by simp [outL], Nat.zero_le _, ⟨0, _, [], _, by simpa using Trace.nil _ _ _, HN.out⟩, HB3.out⟩
   case round =>
    obtain ⟨k, rfl, rfl, hk, ⟨t, uv, us, S, hTk, hNk⟩, hbk⟩ := hrel
    have HTk := Lib.hid hTk
    have HNk := Lib.hid hNk
    have HBk := Lib.hid hbk
    clear hTk hNk hbk
    obtain ⟨sw, esw⟩ : ∃ sw : ByteArray, (⟨(outL (os.take k)).toArray⟩ : ByteArray) = sw := ⟨_, rfl⟩
    rw [esw]
    have ESW := Lib.hid esw
    clear esw
    by_cases d1 : k < nn
    ·have q1 : (k : Int) < (nn : Int) := by omega
     have q0 : (0 : Int) ≤ (k : Int) := by omega
     obtain ⟨l, hl⟩ : ∃ l, ls[k]? = some l := ⟨ls[k]'(by rw [HLs.out]; exact d1), List.getElem?_eq_getElem _⟩
     have yk : wr.cell? ⟨g, k, none⟩ = some (.string ⟨l.toArray⟩) := (HBk.out.cell (p := ⟨g, k, none⟩) hgX).trans ((HB20.out.cell (p := ⟨g, k, none⟩) hg1).trans (HCl.out k l hl).1)
     obtain ⟨o, t2, us2, S2, e2, ha, hT2⟩ := HT.out.step TrueR.start hl HTk.out
     have CL := Lib.hid (show Calls Tryz.prog 9 #[.pointer (some ⟨b.M, 0, none⟩), .string ⟨l.toArray⟩] wr (LineR X0 wr b (some ⟨w2.heap.size, 0, none⟩) (some ⟨w2.heap.size + 1, 0, none⟩) 3 3 uv o t2 us2 S2) from
      r2_Line HNk.out (by rw [H3.out]; exact I1.out) (by rw [H3.out]; exact I2.out) H3.out (HTk.out.true TrueR.start) (by rw [str_len]; have := (HCl.out k l hl).2; omega) ha)
     have lo := ha.len (HTk.out.true TrueR.start)
     have lw := HTk.out.size TrueR.start
     rw [← str_len, ESW.out, List.length_take] at lw
     obtain ⟨so, eso⟩ : ∃ so : ByteArray, (⟨o.toArray⟩ : ByteArray) = so := ⟨_, rfl⟩
     have l0 : so.size ≤ 100 := by rw [← eso, str_len]; exact lo
     have lw1 : sw.size ≤ 303200 := by omega
     have l1 : sw.size + so.size ≤ 9223372036854775807 := by omega
     have l2 : sw.size + so.size + 1 ≤ 9223372036854775807 := by omega
     have l3 : sw.size + so.size ≤ 9223372036854775806 := by omega
     have CL2 := Lib.hid (CL.out.mono fun e w' (h : LineR X0 wr b _ _ 3 3 uv o t2 us2 S2 e w') => show e = .returned (.string so) ∧ _ from ⟨by rw [← eso]; exact h.1, h.2⟩)
     have ESO := Lib.hid eso
     clear lo lw eso CL l0 lw1
     have HE := Lib.hid e2
     have HT2 := Lib.hid hT2
     clear hl e2 ha hT2
     go_wp2_with fail
     refine CL2.out.mono ?_
     rintro e w5 ⟨rfl, uv', hN5, hK5, hu5⟩
     have HB5 := Lib.hid (HBk.out.trans (hK5.toBelow HBk.out.size (fun q hq => (snet_low HNk.out q hq))))
     have HN5 := Lib.hid hN5
     clear hN5 hK5 hu5
     go_wp2_with fail
     go_roundw
     case rel => exact ⟨k + 1, by go_num, by rw [HE.out, ← outL_bytes, ESW.out, ESO.out], by omega, ⟨t2, uv', us2, S2, HT2.out, HN5.out⟩, HB5.out⟩
     case measure => simp [intOf]; omega
    ·have q1 : ¬ (k : Int) < (nn : Int) := by omega
     have hkn : k = nn := by omega
     have e1 : os.take k = os := List.take_of_length_le (by rw [HOL.out, HLs.out, hkn]; exact Nat.le_refl _)
     have e2 : sw = G := by rw [← ESW.out, e1]; exact EG.out
     clear hkn e1
     subst e2
     have HBf := Lib.hid (HB0.out.trans (HBk.out.mono HB0.out.size))
     go_wp2_with fail
     go_ret
     exact ⟨by first | rfl | simp, HBf.out⟩
  ·have qx0 : X.toList.isEmpty = false := by rw [qx, hXl]; cases x with | nil => exact absurd rfl hxn | cons _ _ => rfl
   clear qx hXl eX hxn
   go_wp2_with fail
   refine (CM.out _ _ _ I1.out I2.out).mono ?_
   rintro e w3 ⟨b, rfl, h3, hN, hb3⟩
   have HN := Lib.hid hN
   have H3 := Lib.hid h3
   have HB3 := Lib.hid hb3
   clear hX0 CM hN h3 hb3 yx qx0 v1
   go_wp2_with fail
   go_loopw [6, 7] (fun sv iv wr => ∃ k : Nat, iv = .int .i64 k ∧ sv = .string ⟨(outL (os.take k)).toArray⟩ ∧ k ≤ (m + 1) ∧ (∃ t uv us S, Trace 0 [] (fun i => NSt.start 3 i 100) (ls.take k) (os.take k) t us S ∧ SNetAt X0 wr b (some ⟨w2.heap.size, 0, none⟩) (some ⟨w2.heap.size + 1, 0, none⟩) 3 3 100 t uv us S) ∧ Below X0.heap.size X0 wr) (fun _ iv _ => (m + 1) - (intOf iv).toNat)
   case atStart => exact ⟨0, rfl, by simp [outL], Nat.zero_le _, ⟨0, _, [], _, by simpa using Trace.nil _ _ _, HN.out⟩, HB3.out⟩
   case round =>
    obtain ⟨k, rfl, rfl, hk, ⟨t, uv, us, S, hTk, hNk⟩, hbk⟩ := hrel
    have HTk := Lib.hid hTk
    have HNk := Lib.hid hNk
    have HBk := Lib.hid hbk
    clear hTk hNk hbk
    obtain ⟨sw, esw⟩ : ∃ sw : ByteArray, (⟨(outL (os.take k)).toArray⟩ : ByteArray) = sw := ⟨_, rfl⟩
    rw [esw]
    have ESW := Lib.hid esw
    clear esw
    by_cases d1 : k < (m + 1)
    ·have q1 : (k : Int) < (m : Int) + 1 := by omega
     have q0 : (0 : Int) ≤ (k : Int) := by omega
     obtain ⟨l, hl⟩ : ∃ l, ls[k]? = some l := ⟨ls[k]'(by rw [HLs.out]; exact d1), List.getElem?_eq_getElem _⟩
     have yk : wr.cell? ⟨g, k, none⟩ = some (.string ⟨l.toArray⟩) := (HBk.out.cell (p := ⟨g, k, none⟩) hgX).trans ((HB20.out.cell (p := ⟨g, k, none⟩) hg1).trans (HCl.out k l hl).1)
     obtain ⟨o, t2, us2, S2, e2, ha, hT2⟩ := HT.out.step TrueR.start hl HTk.out
     have CL := Lib.hid (show Calls Tryz.prog 9 #[.pointer (some ⟨b.M, 0, none⟩), .string ⟨l.toArray⟩] wr (LineR X0 wr b (some ⟨w2.heap.size, 0, none⟩) (some ⟨w2.heap.size + 1, 0, none⟩) 3 3 uv o t2 us2 S2) from
      r2_Line HNk.out (by rw [H3.out]; exact I1.out) (by rw [H3.out]; exact I2.out) H3.out (HTk.out.true TrueR.start) (by rw [str_len]; have := (HCl.out k l hl).2; omega) ha)
     have lo := ha.len (HTk.out.true TrueR.start)
     have lw := HTk.out.size TrueR.start
     rw [← str_len, ESW.out, List.length_take] at lw
     obtain ⟨so, eso⟩ : ∃ so : ByteArray, (⟨o.toArray⟩ : ByteArray) = so := ⟨_, rfl⟩
     have l0 : so.size ≤ 100 := by rw [← eso, str_len]; exact lo
     have lw1 : sw.size ≤ 303200 := by omega
     have l1 : sw.size + so.size ≤ 9223372036854775807 := by omega
     have l2 : sw.size + so.size + 1 ≤ 9223372036854775807 := by omega
     have l3 : sw.size + so.size ≤ 9223372036854775806 := by omega
     have CL2 := Lib.hid (CL.out.mono fun e w' (h : LineR X0 wr b _ _ 3 3 uv o t2 us2 S2 e w') => show e = .returned (.string so) ∧ _ from ⟨by rw [← eso]; exact h.1, h.2⟩)
     have ESO := Lib.hid eso
     clear lo lw eso CL l0 lw1
     have HE := Lib.hid e2
     have HT2 := Lib.hid hT2
     clear hl e2 ha hT2
     go_wp2_with fail
     refine CL2.out.mono ?_
     rintro e w5 ⟨rfl, uv', hN5, hK5, hu5⟩
     have HB5 := Lib.hid (HBk.out.trans (hK5.toBelow HBk.out.size (fun q hq => (snet_low HNk.out q hq))))
     have HN5 := Lib.hid hN5
     clear hN5 hK5 hu5
     go_wp2_with fail
     go_roundw
     case rel => exact ⟨k + 1, by go_num, by rw [HE.out, ← outL_bytes, ESW.out, ESO.out], by omega, ⟨t2, uv', us2, S2, HT2.out, HN5.out⟩, HB5.out⟩
     case measure => simp [intOf]; omega
    ·have q1 : ¬ (k : Int) < (m : Int) + 1 := by omega
     have hkn : k = (m + 1) := by omega
     have e1 : os.take k = os := List.take_of_length_le (by rw [HOL.out, HLs.out, hkn]; exact Nat.le_refl _)
     have e2 : sw = G := by rw [← ESW.out, e1]; exact EG.out
     clear hkn e1
     subst e2
     have HBf := Lib.hid (HB0.out.trans (HBk.out.mono HB0.out.size))
     go_wp2_with fail
     go_ret
     exact ⟨by first | rfl | simp, HBf.out⟩

set_option maxRecDepth 100000 in
theorem reads (os : Os) {H : Type} (enc : TypeId × Value → H) : DataW.whole enc Tryz.prog ((laidWorldR os).forCall (fun _ _ => 0) ⟨#[], #[.string ⟨#[]⟩], []⟩).memory Tryz.f3.params.toList Rows.runAnswersSpec.vars false (#[.string ⟨#[]⟩] : Array Value).toList 8 = some ([.lit (.string [])], [], []) :=
 by kernel_rfl
set_option maxRecDepth 100000 in
theorem lifted (os : Os) (started : os.Started) (H : Type) (enc : TypeId × Value → H) (F : Stop.Interp) :
  ReturnsInHanded {} Tryz.checked os 3 .any ((OpenSpec.ofChange Rows.runAnswersSpec).preRow enc Tryz.prog Tryz.f3 Rows.runAnswersRow.domain false laidDataR) (((OpenSpec.ofChange Rows.runAnswersSpec).at F).post enc Tryz.prog Tryz.f3 false true false false) := by
 refine returnsInHanded_of_row (C := Tryz.checked) (s := OpenSpec.ofChange Rows.runAnswersSpec) own started kRf Tryz.func3
  (witness_row_at (enc := enc) (C := Tryz.checked) false (laidWorldR os) #[.string ⟨#[]⟩] rfl kRf kRf kRf
   (OpenSpec.preRow_of_cond 8 (reads os enc) (by rfl) (fun k hk => by cases hk) kRf (laidWorldR_met os _))) ?_
 intro W base args ds gs before hval0 hW hcnd hcond hreach hL hshape _
 have hval : ∀ (j : Nat) t v, Tryz.f3.params[j]? = some t → args[j]? = some v → Value.okWide Tryz.prog W .any base t v := hval0
 have hW' := hW
 obtain ⟨p, q, hA0, hV, rfl, hfz, hnd⟩ := hW
 have hA : DataW.TrodAll enc Tryz.prog W 0 (fun _ => true) true Tryz.f3.params.toList args.toList ds p := hA0
 rw [Tryz.params3] at hA hval
 obtain ⟨v0, vs0, d0, ds0, p0, q0, hargs, rfl, rfl, g0, r0⟩ := trodAll_cons hA
 obtain ⟨rfl, rfl, rfl⟩ := trodAll_nil r0
 obtain rfl : args = #[v0] := by cases args; simp_all
 have hV2 : DataW.TrodVars enc Tryz.prog W (fun _ => true) [] gs q := hV
 obtain ⟨rfl, rfl⟩ : gs = [] ∧ q = [] := by
  cases gs with
  | nil => exact ⟨rfl, hV2⟩
  | cons g r => exact absurd hV2 (by intro h; cases h)
 have k0 := g0
 have lt0 : ∀ x ∈ p0, x.block < W.heap.size := by obtain ⟨m, hm⟩ := k0; exact DataW.trod_lt m _ _ _ hm
 have rd0 : Tryz.prog.readableRec 9 = true := by kernel_rfl
 have ls0 : 9 < Tryz.prog.types.size := of_decide_eq_true kRf
 obtain ⟨a0, rfl, e0, _, h0⟩ := open_string Tryz.underlying9 (hval 0 9 v0 rfl rfl) g0
 clear hA0 hval0
 have key : Calls Tryz.prog 3 #[.string a0] W fun e W' => ∃ v, e = .returned v ∧ Rows.runAnswersSpec.post enc Tryz.prog Tryz.f3 false true false false W #[.string a0] v W' := by
  refine (walk a0 W h0 (runW_of_laidR hL hshape)).mono fun e W' ⟨he, bel⟩ => ?_
  subst he
  exact ⟨_, rfl, _, _, _, [], _, [], hW', trodAll_mk1 (shut_bool Tryz.underlying4 _), (trodAll_cons_mk (Below.trod laidOut rd0 ls0 k0 bel lt0) trodAll_mk0), rfl, bel.frame _, fun h => by cases h⟩
 exact key

theorem over : Rows.runAnswersRow.holds Tryz.pinned (OpenSpec.ofChange Rows.runAnswersSpec) :=
 OpenClaim.holds_of_cond 3 Tryz.f3 rfl rfl rfl rfl rfl rfl rfl ⟨rfl, rfl, rfl, rfl, rfl⟩ rfl rfl rfl rfl rfl kRf Tryz.func3 kRf
  (of_decide_eq_true kRf) (by unfold Func.isWrapper; rw [if_neg (of_decide_eq_false kRf)]; exact ⟨rfl, rfl⟩)
  (fun os started H enc _ F => by rw [OpenClaim.pre_eq_preRow]; exact lifted os started H enc F)

theorem card : Rows.RunAnswersCardSaid :=
 Claim7.holds_tied_plain_at .later [] [.data, .data, .data, .data, .data, .handle, .sentinel, .sentinel, .wider, .pinned] true (true, Rows.runAnswersCard.stood.harness.2) true
  over (fun _ h => by cases h) kRf (fun _ h => by cases h) runAnswers_row_tie rfl ⟨rfl, rfl⟩ kRf rfl
  (fun f fn hf hfn => by
   obtain rfl : f = 3 := Option.some.inj ((show Tryz.prog.funcNamed "noonmark/noonlaw3.RunAnswers" = some 3 by kernel_rfl).symm.trans hf) |>.symm
   obtain rfl : fn = Tryz.f3 := (Option.some.inj (Tryz.func3.symm.trans hfn)).symm
   exact ⟨kRf, fun j t ht => by
    rw [Tryz.params3] at ht
    exact noStandIn (ps := #[9]) kRf ht⟩)
  kRf

#print axioms card
end Go.Proofs.YtldlandcjegikaaGreatDoor.lRunAnswers
