/- Texts that serve many laws, one behind the other. -/
import Derived.Deep.AppendLies
import Derived.Deep.CutBlock
import Derived.Deep.DeepCutAuto
import Derived.Deep.Light
import Derived.Test.YtldlandcjegikaaGreatDoorHK3
import Derived.Test.YtldlandcjegikaaGreatDoorHMat2
import Derived.Test.YtldlandcjegikaaGreatDoorHNodeH
set_option linter.unusedVariables false
set_option linter.unusedSimpArgs false
namespace Go.Proofs.YtldlandcjegikaaGreatDoor

section
open Go.RowKit
theorem node_Hear (g mb K : Nat) (s s' : NSt) (L : RLetter) (here : Int) (b : Bool) (c : Int) (w : World) (h : NodeAt w g mb K s) (hK : K < 1000000) (hr : Hears s L here b c s') :
  Calls Tryz.prog 95 #[.pointer (some ⟨g, 0, none⟩), .agg #[.int .i64 L.src, .int .i64 L.dst, .bool L.answer, .int .i64 L.t1, .int .i64 L.t2, .int .i64 L.t], .int .i64 here] w fun e w' =>
   e = .returned (.tuple #[.bool b, errV c]) ∧ NodeAt w' g mb (K + 1) s' ∧ Kept (NMine g mb) w w' := by
 have hbel : ∀ {w' : World}, Below w.heap.size w w' → NodeAt w' g mb (K + 1) s ∧ Kept (NMine g mb) w w' := fun hb => ⟨(h.below hb).mono (by omega), (Kept.refl _ w).below hb⟩
 cases hr with
 | back hb => exact (hear_back g mb K s L here w h hb).mono (by rintro e w' ⟨rfl, h1⟩; exact ⟨rfl, hbel h1⟩)
 | shape hb h1 => exact (hear_shape g mb K s L here w h hb h1).mono (by rintro e w' ⟨rfl, h1⟩; exact ⟨rfl, hbel h1⟩)
 | ask hb h1 h2 h3 h4 h5 => exact (hear_ask g mb K s L here w h hb h1 h2 h3 h4 h5).mono (by rintro e w' ⟨rfl, h1⟩; exact ⟨rfl, h1⟩)
 | bad hb h1 h2 h3 h4 h5 h6 => exact (hear_bad g mb K s L here w h hb h1 h2 h3 h4 h5 h6).mono (by rintro e w' ⟨rfl, h1⟩; exact ⟨rfl, hbel h1⟩)
 | first hb h1 h2 h3 h4 h5 h6 h7 => exact (hear_first g mb K s L here w h hb h1 h2 h3 h4 h5 h6 h7 hK).mono (by rintro e w' ⟨rfl, h1⟩; exact ⟨rfl, h1⟩)
 | clash k hb h1 h2 h3 h4 h5 h6 h7 h8 => exact (hear_clash g mb K s L here w h k hb h1 h2 h3 h4 h5 h6 h7 h8).mono (by rintro e w' ⟨rfl, h1⟩; exact ⟨rfl, hbel h1⟩)
 | more k hb h1 h2 h3 h4 h5 h6 h7 h8 => exact (hear_more g mb K s L here w h k hb h1 h2 h3 h4 h5 h6 h7 h8 hK).mono (by rintro e w' ⟨rfl, h1⟩; exact ⟨rfl, h1⟩)
end


section
open Go.RowKit
def SpansTold (w w' : World) (e : Ending) (S : List RSpan) (H : List Bool) (c : Int) : Prop :=
 ∃ A n k B m d, e = .returned (.tuple #[.slice A n k, .slice B m d, errV c]) ∧ IsRecs w' RSpan.cells RSpan.ok 2 A n k S ∧ IsBools w' B m d H ∧ Below w.heap.size w w' ∧ (∀ x, A = some x → w.heap.size ≤ x.block) ∧ (∀ x, B = some x → w.heap.size ≤ x.block)
set_option maxRecDepth 100000 in
set_option maxHeartbeats 4000000 in
theorem node_Spans_back (g mb K : Nat) (s : NSt) (here : Int) (w : World) (h : NodeAt w g mb K s) (hb : s.backB here = true) :
  Calls Tryz.prog 162 #[.pointer (some ⟨g, 0, none⟩), .int .i64 here] w fun e w' => SpansTold w w' e (tellS s here) (tellB s here) (tellC s here) := by
 have HT := Lib.hid (tell_back hb)
 have CB := Lib.hid (fun w' (hb' : Below w.heap.size w w') => by have := node_back g mb K s here w' (h.below hb'); rw [hb] at this; exact this)
 have e1 := Lib.hid (show tellS s here = [] by unfold tellS; rw [HT.out]; rfl)
 have e2 := Lib.hid (show tellB s here = [] by unfold tellB; rw [HT.out]; rfl)
 clear h hb
 go_enter Tryz.func162, Tryz.ntmps162
 go_wp2_with fail
 refine (CB.out _ (by exact BeL)).mono ?_
 rintro e w' ⟨rfl, rfl⟩
 go_wp2_with fail
 refine bodyPost_ret (v := .tuple #[.slice none 0 0, .slice none 0 0, .iface 88 (.int .i64 8)]) (by simp [results, Tryz.results162, go_sem]) rfl ?_
 exact ⟨none, 0, 0, none, 0, 0, by rw [HT.out]; rfl, by rw [e1.out]; exact recs_nil _ _ _ _, by rw [e2.out]; exact bools_nil _, BeL, fun x e => (by cases e), fun x e => (by cases e)⟩
set_option maxRecDepth 100000 in
set_option maxHeartbeats 8000000 in
theorem node_Spans_on (g mb K : Nat) (s : NSt) (here : Int) (w : World) (h : NodeAt w g mb K s) (hb : s.backB here = false) :
  Calls Tryz.prog 162 #[.pointer (some ⟨g, 0, none⟩), .int .i64 here] w fun e w' => SpansTold w w' e (tellS s here) (tellB s here) (tellC s here) := by
 have HU := Lib.hid h
 have HB := Lib.hid hb
 have CB := Lib.hid (fun w' (hb' : Below w.heap.size w w') => by have := node_back g mb K s here w' (h.below hb'); rw [hb] at this; exact this)
 have n1 := h.ok.n1
 have n6 := h.ok.n6
 have c1 := h.blk.cell 1
 have kl := h.blk.lt
 simp at c1
 obtain ⟨N, hN⟩ : ∃ N, s.N = N := ⟨_, rfl⟩
 rw [hN] at c1 n1 n6
 have HN := Lib.hid hN
 have mk3 := make_spans N (by omega)
 have mk4 := run_make_row' (P := Tryz.prog) 124 4 (.bool false) 1 Tryz.underlying124 infoB rfl .i64 .i64 N (by omega) (by omega)
 rw [made_b] at mk4
 clear h hb hN
 go_enter Tryz.func162, Tryz.ntmps162
 go_wp2_with fail
 refine (CB.out _ (by exact BeL)).mono ?_
 rintro e w' ⟨rfl, rfl⟩
 go_wp2_with fail
 go_cut [7, 8] (fun u v wx => ∃ p q, u = .slice (some ⟨p, 0, none⟩) N N ∧ v = .slice (some ⟨q, 0, none⟩) N N ∧ p ≠ q ∧ w.heap.size ≤ p ∧ w.heap.size ≤ q ∧ Blk wx p 34 (SCells (partS s here 0)) ∧ Blk wx q 4 (BCells (partB s 0)) ∧ Below w.heap.size w wx)
 case first =>
  have e0 := partS_0 s here
  have e1 := partB_0 s
  rw [HN.out] at e0 e1
  have E0 := Lib.hid e0
  have E1 := Lib.hid e1
  clear e0 e1
  go_region
  all_goals
   go_wp2_with fail
   go_meet
   case rel =>
    refine ⟨_, _, rfl, rfl, by first | omega | (simp; done), by first | omega | (simp; done), by first | omega | (simp; done), ?_, ?_, BeL⟩
    ·rw [E0.out]; exact BkD
    ·rw [E1.out]; exact BkD
 case rest =>
 obtain ⟨p, q, rfl, rfl, hpq, hp, hq, hbp, hbq, hB⟩ := hcut
 have HP := Lib.hid hbp
 have HQ := Lib.hid hbq
 have HB1 := Lib.hid hB
 have y1 : wc.cell? ⟨g, 1, none⟩ = some (.int .i64 N) := (hB.cell (p := ⟨g, 1, none⟩) kl).trans c1
 clear hbp hbq hB mk3 mk4 c1
 go_wp2_with fail
 go_loopw [31] (fun iv wr => ∃ i : Nat, iv = .int .i64 i ∧ i ≤ N ∧ Blk wr p 34 (SCells (partS s here i)) ∧ Blk wr q 4 (BCells (partB s i)) ∧ Below w.heap.size w wr ∧ ∀ j, j < i → farAt s here j = false) (fun iv _ => N - (intOf iv).toNat)
 case atStart => exact ⟨0, rfl, by omega, HP.out, HQ.out, HB1.out, fun j hj => absurd hj (by omega)⟩
 case round =>
  obtain ⟨i, rfl, hi, hP, hQ, hB, hF⟩ := hrel
  have HPi := Lib.hid hP
  have HQi := Lib.hid hQ
  have HBi := Lib.hid hB
  have HF := Lib.hid hF
  have pl := hP.lt
  have ql := hQ.lt
  have hzr := hB.size
  have kl2 : g < wr.heap.size := by omega
  have hU := HU.out.below hB
  have y0 : wr.cell? ⟨g, 0, none⟩ = some (.int .i64 s.id) := hU.blk.cell 0
  have y4 : wr.cell? ⟨g, 4, none⟩ = some (.map (some mb)) := hU.blk.cell 4
  by_cases d1 : i < N
  ·have hx := wf_i64 (show -9223372036854775808 ≤ (i : Int) ∧ (i : Int) ≤ 9223372036854775807 by omega)
   have hl := hU.mp.look (t := 136) (e := 223) Tryz.underlying3 Tryz.underlying136 (z := .agg #[.int .i64 0, .int .i64 0, .int .i64 0]) kRf hx
   have z0 : wr.cell? ⟨q, i, none⟩ = some (.bool false) := hQ.bat (by rw [partB_get (by rw [HN.out]; exact d1), if_neg (by omega)])
   have zf : wr.frozen? ⟨q, i, none⟩ = false := hQ.fz i
   have g1 : (i : Int) < (N : Int) := by omega
   cases hf : s.f i with
   | none =>
    rw [hf] at hl
    simp only [Option.map_none, Option.getD_none, Option.isSome_none] at hl
    have hbv : ((i : Int) == (s.id : Int)) = hasAt s i := by
     unfold hasAt
     rw [hf]
     by_cases e : i = s.id
     ·simp [e]
     ·simp [e]; omega
    have HS1 := Lib.hid (partS_skip (here := here) hf)
    have HS2 := Lib.hid (partB_set (s := s) (show i < s.N by rw [HN.out]; exact d1))
    have HF2 := Lib.hid (show ∀ j, j < i + 1 → farAt s here j = false from fun j hj => by
     by_cases e : j < i
     ·exact HF.out j e
     ·have : j = i := by omega
      subst this; unfold farAt; rw [hf])
    obtain ⟨bv, hbv2⟩ : ∃ b, hasAt s i = b := ⟨_, rfl⟩
    rw [hbv2] at hbv HS2
    clear hf hU hP hQ hB hF hx hbv2
    go_wp2_with fail
    go_roundw
    case rel =>
     have hBB := HBi.out
     refine ⟨i + 1, by go_num, by omega, ?_, ?_, BeL, HF2.out⟩
     ·rw [HS1.out]; exact (HPi.out.far (p := ⟨q, i, none⟩) hpq _).alloc _
     ·rw [← HS2.out]; exact (HQi.out.bset i bv).alloc _
    case measure => go_light; simp [intOf]; omega
   | some k =>
    rw [hf] at hl
    simp only [Option.map_some, Option.getD_some, Option.isSome_some, Kn.val] at hl
    have CA := Lib.hid (fun W (hb' : Below w.heap.size w W) => node_aged g mb K s i here k W (HU.out.below hb') hf HB.out)
    have hsv : spanAt s here i = ⟨ageL k s.p here, ageH k s.p here⟩ := by unfold spanAt; rw [hf]
    have hfv : farAt s here i = !rightB (ageL k s.p here) (ageH k s.p here) := by unfold farAt; rw [hf]
    have hhv : hasAt s i = true := by unfold hasAt; rw [hf]
    have HS1 := Lib.hid (partS_set (s := s) (here := here) (show i < s.N by rw [HN.out]; exact d1))
    have HS2 := Lib.hid (partB_set (s := s) (show i < s.N by rw [HN.out]; exact d1))
    obtain ⟨al, hal⟩ : ∃ v, ageL k s.p here = v := ⟨_, rfl⟩
    obtain ⟨ah, hah⟩ : ∃ v, ageH k s.p here = v := ⟨_, rfl⟩
    rw [hal, hah] at CA hsv hfv
    rw [hsv] at HS1
    rw [hhv] at HS2
    have CR := Lib.hid (fun W => Right_any al ah W)
    have s0 : wr.cell? ⟨p, i * 2, none⟩ = some (.int .i64 0) := hP.sat0 (by rw [partS_get (by rw [HN.out]; exact d1), if_neg (by omega)])
    have s1 : wr.cell? ⟨p, i * 2 + 1, none⟩ = some (.int .i64 0) := hP.sat1 (by rw [partS_get (by rw [HN.out]; exact d1), if_neg (by omega)])
    have sf0 : wr.frozen? ⟨p, i * 2, none⟩ = false := hP.fz _
    have sf1 : wr.frozen? ⟨p, i * 2 + 1, none⟩ = false := hP.fz _
    obtain ⟨R, hR⟩ : ∃ b, rightB al ah = b := ⟨_, rfl⟩
    rw [hR] at CR hfv
    have HF2 := Lib.hid (show R = true → ∀ j, j < i + 1 → farAt s here j = false from fun hr j hj => by
     by_cases e : j < i
     ·exact HF.out j e
     ·have : j = i := by omega
      subst this; rw [hfv, hr]; rfl)
    have HF3 := Lib.hid (show R = false → tellC s here = 1 from fun hr => tell_far HB.out (show i < s.N by rw [HN.out]; exact d1) (by rw [hfv, hr]; rfl))
    clear hf hU hP hQ hB hF hx hal hah hsv hfv hhv hR
    go_wp2_with fail
    refine (CA.out _ (HBi.out.alloc (by omega) _)).mono ?_
    rintro e w3 ⟨rfl, hb3⟩
    have HB3 := Lib.hid ((Below.refl wr.heap.size wr).alloc (Nat.le_refl _) (.cells #[.int .i64 k.lo, .int .i64 k.hi, .int .i64 k.at_] 223) |>.trans (hb3.mono (by simp)))
    have HP3 := Lib.hid (HPi.out.below HB3.out pl)
    have HQ3 := Lib.hid (HQi.out.below HB3.out ql)
    have hz3 := HB3.out.size
    have p3 := HP3.out.lt
    have q3 := HQ3.out.lt
    clear hb3 z0 zf s0 s1 sf0 sf1 y0 y4
    go_wp2_with fail
    refine (CR.out _).mono ?_
    rintro e w4 ⟨rfl, hb4⟩
    have HAl := Lib.hid ((Below.refl w3.heap.size w3).alloc (Nat.le_refl _) (.cells #[.int .i64 al, .int .i64 ah] 34))
    have HB4 := Lib.hid (HAl.out.trans (hb4.mono HAl.out.size))
    have HT4 : Blk w4 w3.heap.size 34 #[.int .i64 al, .int .i64 ah] := (Blk.new w3 _ _).below hb4 (by simp)
    have HP4 := Lib.hid (HP3.out.below HB4.out p3)
    have HQ4 := Lib.hid (HQ3.out.below HB4.out q3)
    have HBw4 := Lib.hid ((HBi.out.trans (HB3.out.mono hzr)).trans (HB4.out.mono (by omega)))
    have t0 : w4.cell? ⟨w3.heap.size, 0, none⟩ = some (.int .i64 al) := HT4.cell 0
    have t1 : w4.cell? ⟨w3.heap.size, 1, none⟩ = some (.int .i64 ah) := HT4.cell 1
    have z0 : w4.cell? ⟨q, i, none⟩ = some (.bool false) := HQ4.out.bat (by rw [partB_get (by rw [HN.out]; exact d1), if_neg (by omega)])
    have zf : w4.frozen? ⟨q, i, none⟩ = false := HQ4.out.fz i
    have s0 : w4.cell? ⟨p, i * 2, none⟩ = some (.int .i64 0) := HP4.out.sat0 (by rw [partS_get (by rw [HN.out]; exact d1), if_neg (by omega)])
    have s1 : w4.cell? ⟨p, i * 2 + 1, none⟩ = some (.int .i64 0) := HP4.out.sat1 (by rw [partS_get (by rw [HN.out]; exact d1), if_neg (by omega)])
    have sf0 : w4.frozen? ⟨p, i * 2, none⟩ = false := HP4.out.fz _
    have sf1 : w4.frozen? ⟨p, i * 2 + 1, none⟩ = false := HP4.out.fz _
    have p4 := HP4.out.lt
    have q4 := HQ4.out.lt
    clear hb4 HT4 HP3 HQ3 HPi HQi CA CR
    cases R
    ·have HT := Lib.hid (HF3.out rfl)
     have e1 := Lib.hid (show tellS s here = [] by unfold tellS; rw [HT.out]; rfl)
     have e2 := Lib.hid (show tellB s here = [] by unfold tellB; rw [HT.out]; rfl)
     clear HF2 HF3
     go_wp2_with fail
     refine bodyPost_ret (v := .tuple #[.slice none 0 0, .slice none 0 0, .iface 88 (.int .i64 1)]) (by simp [results, Tryz.results162, go_sem]) rfl ?_
     exact ⟨none, 0, 0, none, 0, 0, by rw [HT.out]; rfl, by rw [e1.out]; exact recs_nil _ _ _ _, by rw [e2.out]; exact bools_nil _, HBw4.out, fun x e => (by cases e), fun x e => (by cases e)⟩
    ·have HFn := Lib.hid (HF2.out rfl)
     clear HF2 HF3
     go_wp2_with fail
     go_roundw
     case rel =>
      have hBB := HBw4.out
      refine ⟨i + 1, by go_num, by omega, ?_, ?_, BeL, HFn.out⟩
      ·rw [← HS1.out]; exact (HP4.out.sset i al ah).far (p := ⟨q, i, none⟩) hpq _
      ·rw [← HS2.out]; exact ((HQ4.out.far (p := ⟨p, i * 2, none⟩) (fun e => hpq e.symm) _).far (p := ⟨p, i * 2 + 1, none⟩) (fun e => hpq e.symm) _).bset i true
     case measure => go_light; simp [intOf]; omega
  ·obtain rfl : i = N := by omega
   have HT := Lib.hid (tell_ok HB.out (by rw [HN.out]; exact HF.out))
   have e1 := Lib.hid (partS_all HT.out)
   have e2 := Lib.hid (partB_all HT.out)
   rw [HN.out] at e1 e2
   have hRS := HPi.out.spans (by rw [partS_len, HN.out]) (by unfold maxLen; omega) (spans_ok HU.out.ok HB.out i)
   have hRB := HQi.out.bools (by rw [partB_len, HN.out]) (by unfold maxLen; omega)
   rw [e1.out] at hRS
   rw [e2.out] at hRB
   have HRS := Lib.hid hRS
   have HRB := Lib.hid hRB
   clear hU hP hQ hB hF hRS hRB
   go_wp2_with fail
   refine bodyPost_ret (v := .tuple #[.slice (some ⟨p, 0, none⟩) i i, .slice (some ⟨q, 0, none⟩) i i, .nilIface]) (by simp [results, Tryz.results162, go_sem]) rfl ?_
   exact ⟨_, _, _, _, _, _, by rw [HT.out]; rfl, HRS.out, HRB.out, HBi.out, fun x e => (by cases e; exact hp), fun x e => (by cases e; exact hq)⟩
theorem node_Spans (g mb K : Nat) (s : NSt) (here : Int) (w : World) (h : NodeAt w g mb K s) :
  Calls Tryz.prog 162 #[.pointer (some ⟨g, 0, none⟩), .int .i64 here] w fun e w' => SpansTold w w' e (tellS s here) (tellB s here) (tellC s here) := by
 cases hb : s.backB here
 ·exact node_Spans_on g mb K s here w h hb
 ·exact node_Spans_back g mb K s here w h hb
end


section
open Go.RowKit
theorem edge_oneN (z : REdge) : ∀ u ∈ REdge.cells z, u.oneCell' = true := by
 intro u hu
 simp [REdge.cells] at hu
 rcases hu with rfl | rfl | rfl | rfl <;> rfl
theorem infoEdgeN : (Tryz.prog.info? 208).map (fun i => (i.zero, i.size, i.bytes)) = some (some (.agg #[.int .i64 0, .int .i64 0, .int .i64 0, .int .i64 0]), 4, 32) := by kernel_rfl
def EdgesTold (w w' : World) (e : Ending) (E : List REdge) (c : Int) : Prop :=
 ∃ A n k, e = .returned (.tuple #[.slice A n k, errV c]) ∧ IsRecs w' REdge.cells REdge.ok 4 A n k E ∧ Below w.heap.size w w'
set_option maxRecDepth 100000 in
set_option maxHeartbeats 8000000 in
theorem node_Edges (g mb K : Nat) (s : NSt) (here : Int) (w : World) (h : NodeAt w g mb K s) :
  Calls Tryz.prog 136 #[.pointer (some ⟨g, 0, none⟩), .int .i64 here] w fun e w' => EdgesTold w w' e (tellE s here) (tellC s here) := by
 obtain ⟨i0, hi, hz0, hz1, hz2⟩ := info_parts infoEdgeN
 have HU := Lib.hid h
 have HEok := Lib.hid (tellE_ok (here := here) h.ok)
 have n6 := h.ok.n6
 have kl := h.blk.lt
 have CS := Lib.hid (node_Spans g mb K s here w h)
 clear h
 go_enter Tryz.func136, Tryz.ntmps136
 go_wp2_with fail
 refine CS.out.mono ?_
 rintro e w1 ⟨A0, n, k0, B0, m, d0, rfl, hS, hH, hb1, _, _⟩
 by_cases hc : tellC s here = 0
 ·have HC := Lib.hid hc
  have hSN : n = s.N := by rw [← hS.1]; unfold tellS; rw [if_pos hc]; simp
  have hHN : m = s.N := by rw [← hH.1]; unfold tellB; rw [if_pos hc]; simp
  obtain ⟨N, hN⟩ : ∃ N, s.N = N := ⟨_, rfl⟩
  rw [hN] at hSN hHN n6
  have HN := Lib.hid hN
  subst hSN
  obtain rfl : n = m := hHN.symm
  have hk0 := hS.2.2.1
  have hkn := hS.2.1
  have hd0 := hH.2.2.1
  have hdn := hH.2.1
  unfold maxLen at hk0 hd0
  have HS := Lib.hid hS
  have HH := Lib.hid hH
  have HB1 := Lib.hid hb1
  have hz1' := hb1.size
  rw [hc]
  clear hS hH hb1 hHN CS hN hc
  go_wp2_with fail
  go_loopw [9, 24] (fun vv iv wr => ∃ i : Nat, iv = .int .i64 i ∧ i ≤ n ∧ wr.ownsRow w1.heap.size 208 4 vv ((List.range i).flatMap (edgeAt s here)).length (((List.range i).flatMap (edgeAt s here)).flatMap REdge.cells) ∧ Below w1.heap.size w1 wr) (fun _ iv _ => n - (intOf iv).toNat)
  case atStart => exact ⟨0, rfl, by omega, by simpa using own_nil _ _ _ _, Below.refl _ _⟩
  case round =>
   obtain ⟨i, rfl, hi', hO, hB⟩ := hrel
   have HO := Lib.hid hO
   have HBr := Lib.hid hB
   have hzr := hB.size
   have kl2 : g < wr.heap.size := by omega
   have y0 : wr.cell? ⟨g, 0, none⟩ = some (.int .i64 s.id) := (HU.out.below (HB1.out.trans (hB.mono HB1.out.size))).blk.cell 0
   obtain ⟨AO, cO, rfl, hAc, hcm⟩ := own_slice hO
   unfold maxLen at hcm
   have hlen := flat_le (edgeAt s here) (edgeAt_len s here) i
   by_cases d1 : i < n
   ·obtain ⟨b1, off1, rfl, hb1', hc1⟩ := HS.out.2.2.2.2 (by omega)
    obtain ⟨b2, off2, rfl, hb2', hc2⟩ := HH.out.2.2.2.2 (by omega)
    have hsz : (tellS s here)[i]? = some (spanAt s here i) := by unfold tellS; rw [if_pos HC.out, List.getElem?_map, HN.out, List.getElem?_range d1]; rfl
    have hbz : (tellB s here)[i]? = some (hasAt s i) := by unfold tellB; rw [if_pos HC.out, List.getElem?_map, HN.out, List.getElem?_range d1]; rfl
    have x0 : wr.cell? ⟨b1, off1 + i * 2, none⟩ = some (.int .i64 (spanAt s here i).lo) := (hB.cell (p := ⟨b1, off1 + i * 2, none⟩) hb1').trans (hc1 i _ hsz 0 _ rfl)
    have x1 : wr.cell? ⟨b1, off1 + i * 2 + 1, none⟩ = some (.int .i64 (spanAt s here i).hi) := (hB.cell (p := ⟨b1, off1 + i * 2 + 1, none⟩) hb1').trans (hc1 i _ hsz 1 _ rfl)
    have x2 : wr.cell? ⟨b2, off2 + i, none⟩ = some (.bool (hasAt s i)) := by have := (hB.cell (p := ⟨b2, off2 + i * 1 + 0, none⟩) hb2').trans (hc2 i _ hbz 0 _ rfl); simpa using this
    have g1 : (i : Int) < (n : Int) := by omega
    have g2 : (0 : Int) ≤ (i : Int) := by omega
    have lb1 : b1 < wr.heap.size := by omega
    have lb2 : b2 < wr.heap.size := by omega
    have hstep : (List.range (i + 1)).flatMap (edgeAt s here) = (List.range i).flatMap (edgeAt s here) ++ edgeAt s here i := by rw [List.range_succ, List.flatMap_append, List.flatMap_cons, List.flatMap_nil, List.append_nil]
    obtain ⟨lo, hlo⟩ : ∃ v, (spanAt s here i).lo = v := ⟨_, rfl⟩
    obtain ⟨hiV, hhi⟩ : ∃ v, (spanAt s here i).hi = v := ⟨_, rfl⟩
    obtain ⟨hv, hhv⟩ : ∃ v, hasAt s i = v := ⟨_, rfl⟩
    rw [hlo] at x0
    rw [hhi] at x1
    rw [hhv] at x2
    by_cases hq : hv = true ∧ i ≠ s.id
    ·obtain ⟨rfl, hne⟩ := hq
     have he : edgeAt s here i = [⟨s.id, i, lo, hiV⟩] := by unfold edgeAt; rw [if_pos ⟨hhv, hne⟩, hlo, hhi]
     have HStep := Lib.hid (show (List.range (i + 1)).flatMap (edgeAt s here) = (List.range i).flatMap (edgeAt s here) ++ [⟨s.id, i, lo, hiV⟩] by rw [hstep, he])
     obtain ⟨E, hE⟩ : ∃ E, (List.range i).flatMap (edgeAt s here) = E := ⟨_, rfl⟩
     rw [hE] at HO HStep hlen hAc ⊢
     have g3 : ((i : Int) != (s.id : Int)) = true := by simp; omega
     have KP := Lib.hid (fun w' (hb : Below wr.heap.size wr w') => show w'.cell? ⟨g, 0, none⟩ = some (.int .i64 s.id) ∧ w'.cell? ⟨b1, off1 + i * 2, none⟩ = some (.int .i64 lo) ∧ w'.cell? ⟨b1, off1 + i * 2 + 1, none⟩ = some (.int .i64 hiV) from ⟨(hb.cell (p := ⟨g, 0, none⟩) kl2).trans y0, (hb.cell (p := ⟨b1, off1 + i * 2, none⟩) lb1).trans x0, (hb.cell (p := ⟨b1, off1 + i * 2 + 1, none⟩) lb1).trans x1⟩)
     have HLow := Lib.hid (fun q (e : (Value.slice AO E.length cO).ownBlock = some q) => (HO.out.lt q e).1)
     have KG := Lib.hid (fun W W' (hb : Below wr.heap.size wr W) (hg : W.grownBy W' (Value.slice AO E.length cO).ownBlock) => show W'.cell? ⟨g, 0, none⟩ = some (.int .i64 s.id) ∧ W'.cell? ⟨b1, off1 + i * 2, none⟩ = some (.int .i64 lo) ∧ W'.cell? ⟨b1, off1 + i * 2 + 1, none⟩ = some (.int .i64 hiV) from by
      obtain ⟨k1, k2, k3⟩ := KP.out W hb
      have n1 : some g ≠ (Value.slice AO E.length cO).ownBlock := fun e => by have := HLow.out _ e.symm; omega
      have n2 : some b1 ≠ (Value.slice AO E.length cO).ownBlock := fun e => by have := HLow.out _ e.symm; omega
      exact ⟨hg.cell k1 n1, hg.cell k2 n2, hg.cell k3 n2⟩)
     clear hstep he hE hO hB hlo hhi hhv hne hsz hbz hc1 hc2
     go_wp2_with fail
     refine wp_region_held_drew (S := fun w9 => w9.cell? ⟨g, 0, none⟩ = some (.int .i64 s.id) ∧ w9.cell? ⟨b1, off1 + i * 2, none⟩ = some (.int .i64 lo) ∧ w9.cell? ⟨b1, off1 + i * 2 + 1, none⟩ = some (.int .i64 hiV)) kRf (⟨y0, x0, x1⟩) (fun hHeld => ?_)
     refine tkH 0 (.slice AO E.length cO) (some 38) rfl hHeld ?_
     try simp only [Act.put,sI_,sZ_,sS_]
     refine tkH 1 (.pointer (some ⟨g, 0, none⟩)) (some 39) rfl hHeld ?_
     try simp only [Act.put,sI_,sZ_,sS_]
     refine tkH 2 (.pointer (some ⟨g, 0, none⟩)) (some 40) rfl hHeld ?_
     try simp only [Act.put,sI_,sZ_,sS_]
     refine tkH 3 (.pointer (some ⟨g, 0, none⟩)) (some 41) rfl hHeld ?_
     try simp only [Act.put,sI_,sZ_,sS_]
     refine tkG 4 (.int .i64 s.id) (some 42) rfl (fun w9 hw9 => by (obtain ⟨a0, a1, a2⟩ := hw9; go_simp)) hHeld ?_
     try simp only [Act.put,sI_,sZ_,sS_]
     refine tkH 5 (.int .i64 i) (some 43) rfl hHeld ?_
     try simp only [Act.put,sI_,sZ_,sS_]
     refine tkH 6 (.slice (some ⟨b1, off1, none⟩) n k0) (some 44) rfl hHeld ?_
     try simp only [Act.put,sI_,sZ_,sS_]
     refine tkH 7 (.int .i64 i) (some 45) rfl hHeld ?_
     try simp only [Act.put,sI_,sZ_,sS_]
     refine tkH 8 (.pointer (some ⟨b1, off1 + i * 2, none⟩)) (some 46) rfl hHeld ?_
     try simp only [Act.put,sI_,sZ_,sS_]
     refine tkG 9 (.agg #[.int .i64 lo, .int .i64 hiV]) (some 47) rfl (fun w9 hw9 => by (obtain ⟨a0, a1, a2⟩ := hw9; go_simp)) hHeld ?_
     try simp only [Act.put,sI_,sZ_,sS_]
     refine tkH 10 (.agg #[.int .i64 s.id, .int .i64 i, .int .i64 lo, .int .i64 hiV]) (some 48) rfl hHeld ?_
     try simp only [Act.put,sI_,sZ_,sS_]
     try simp only [Act.put,sI_,sZ_,sS_]
     refine wpAnyH_ready (rs := [11]) kRf (by simp) ?_; refine AllReadyH.cons rfl (fun K hK => ?_) AllReadyH.nil
     go_simp
     have hAl : Below wr.heap.size wr (wr.drew.alloc (.cells (REdge.cells ⟨s.id, i, lo, hiV⟩).toArray 208)) := (((Below.refl _ wr).drew).alloc (by simp) _)
     refine hK.out _ _ (KP.out _ hAl) (fun hHeld2 => ?_); clear hK K hHeld; have hHeld := hHeld2; clear hHeld2
     try simp only [Act.put,sI_,sZ_,sS_]
     refine wpAnyH_ready (rs := [12]) kRf (by simp) ?_; refine AllReadyH.cons rfl (fun K hK => ?_) AllReadyH.nil
     refine step_append_lies _ rfl _ _ 117 rfl w1.heap.size 208 i0 (.agg #[.int .i64 0, .int .i64 0, .int .i64 0, .int .i64 0]) 4 32 Tryz.underlying117 hi hz0 hz1 hz2 rfl (by decide) (.slice AO E.length cO) E.length (E.flatMap REdge.cells) (by simp [Act.eval, Act.put]) ((HO.out).alloc _) ⟨wr.heap.size, 0, none⟩ 1 1 (REdge.cells ⟨s.id, i, lo, hiV⟩) (by simp [Act.eval, Act.put]) rfl (by exact cell_newAt wr.drew (REdge.cells ⟨s.id, i, lo, hiV⟩) _ _ rfl) (edge_oneN _) (by decide) (by unfold maxLen; omega) (by omega) (by simp; omega) _ rfl ?_
     intro gg cap w5 ho5 hg5 hgg hlt5
     refine hK.out _ _ (KG.out _ _ hAl hg5) (fun hHeld2 => ?_); clear hK K hHeld; have hHeld := hHeld2; clear hHeld2
     change wpAnyH _ _ _ _ _ _ _ (Act.put _ (some 50) _) _
     try simp only [Act.put,sI_,sZ_,sS_]
     refine tkH 13 (.slice (some ⟨gg, 0, none⟩) (E.length + 1) cap) (some 9) rfl hHeld ?_
     try simp only [Act.put,sI_,sZ_,sS_]
     refine wpAnyH_done kRf ?_ _
     try simp only [Act.put,sI_,sZ_,sS_]
     have HB5 := Lib.hid (show Below w1.heap.size w1 w5 from (HBr.out.trans (hAl.mono hzr)).grown hg5 (by simp; omega) (fun k hk => HLow.out k hk))
     have HO5 := Lib.hid (show w5.ownsRow w1.heap.size 208 4 (.slice (some ⟨gg, 0, none⟩) (E.length + 1) cap) ((List.range (i + 1)).flatMap (edgeAt s here)).length (((List.range (i + 1)).flatMap (edgeAt s here)).flatMap REdge.cells) from by rw [HStep.out]; exact own_snoc REdge.cells ho5)
     clear hAl ho5 hg5 hgg KP KG HO HLow hHeld x0 x1 x2 y0
     go_wp2_with fail
     go_roundw
     case rel => exact ⟨i + 1, by go_num, by omega, HO5.out, HB5.out⟩
     case measure => go_light; simp [intOf]; omega
    ·have he : edgeAt s here i = [] := by unfold edgeAt; rw [if_neg (by rw [hhv]; exact hq)]
     have HStep := Lib.hid (show (List.range (i + 1)).flatMap (edgeAt s here) = (List.range i).flatMap (edgeAt s here) by rw [hstep, he, List.append_nil])
     have hd : hv = false ∨ (hv = true ∧ ((i : Int) != (s.id : Int)) = false) := by
      cases hv
      ·exact .inl rfl
      ·right; refine ⟨rfl, ?_⟩; simp; by_cases e : i = s.id; omega; exact absurd ⟨rfl, e⟩ hq
     have HO5 := Lib.hid (show wr.ownsRow w1.heap.size 208 4 (.slice AO ((List.range i).flatMap (edgeAt s here)).length cO) ((List.range (i + 1)).flatMap (edgeAt s here)).length (((List.range (i + 1)).flatMap (edgeAt s here)).flatMap REdge.cells) from by rw [HStep.out]; exact HO.out)
     clear hstep he hO hB hlo hhi hhv hq hsz hbz hc1 hc2 HStep
     rcases hd with rfl | ⟨rfl, g3⟩
     all_goals
      go_wp2_with fail
      go_roundw
      case rel => exact ⟨i + 1, by go_num, by omega, HO5.out, HBr.out⟩
      case measure => go_light; simp [intOf]; omega
   ·obtain rfl : i = n := by omega
    have hE : (List.range i).flatMap (edgeAt s here) = tellE s here := by unfold tellE; rw [if_pos HC.out, HN.out]
    rw [hE] at hO HO ⊢
    obtain ⟨A9, n9, c9, e9, hI9⟩ := own_recs REdge.cells REdge.ok 4 (fun _ => rfl) hO HEok.out
    have HI9 := Lib.hid hI9
    have HB9 := Lib.hid (HB1.out.trans (hB.mono HB1.out.size))
    rw [e9]
    clear hO HO hB hI9 hE e9 hlen hAc hcm y0
    go_wp2_with fail
    refine bodyPost_ret (v := .tuple #[.slice A9 n9 c9, .nilIface]) (by simp [results, Tryz.results136, go_sem]) rfl ?_
    exact ⟨_, _, _, by rw [HC.out]; rfl, HI9.out, HB9.out⟩
 ·have HT := Lib.hid (show tellE s here = [] by unfold tellE; rw [if_neg hc])
  have HB1 := Lib.hid hb1
  obtain ⟨c, hcc⟩ : ∃ c, tellC s here = c := ⟨_, rfl⟩
  rw [hcc] at hc ⊢
  have e1 : (c != 0) = true := by simp; exact hc
  rw [errV_ne hc]
  have HCC := Lib.hid hcc
  clear hS hH hb1 CS hcc
  go_wp2_with fail
  refine bodyPost_ret (v := .tuple #[.slice none 0 0, .iface 88 (.int .i64 c)]) (by simp [results, Tryz.results136, go_sem]) rfl ?_
  exact ⟨none, 0, 0, by rw [HCC.out, errV_ne hc], by rw [HT.out]; exact recs_nil _ _ _ _, HB1.out⟩
end


section
open Go.RowKit
structure NAd where
 N : Nat
 g : Nat
 B : Nat
 q : Nat
 n : Nat
 c : Nat
 gi : Nat → Nat
 mb : Nat → Nat
structure NAd.Fine (a : NAd) : Prop where
 BN : a.B ≤ a.N
 Bq : a.B ≤ a.q
 qN : a.q ≠ a.N
 Bg : ∀ i, i < a.n → a.B ≤ a.gi i ∧ a.B ≤ a.mb i ∧ a.gi i ≠ a.N ∧ a.mb i ≠ a.N ∧ a.gi i ≠ a.q ∧ a.mb i ≠ a.q
 dd : ∀ i j, i < a.n → j < a.n → i ≠ j → a.gi i ≠ a.gi j ∧ a.gi i ≠ a.mb j ∧ a.mb i ≠ a.mb j
structure NetAt (w : World) (a : NAd) (ss rs : List Int) (p t : Int) (uv : Value) (us : List RLetter) (K : Nat) (S : Nat → NSt) : Prop where
 net : Blk w a.N 96 #[.pointer (some ⟨a.g, 0, none⟩), .slice (some ⟨a.q, 0, none⟩) a.n a.c]
 W : WorldU w a.g a.B a.n ss rs t uv us
 row : ∀ i, i < a.n → w.cell? ⟨a.q, i, none⟩ = some (.pointer (some ⟨a.gi i, 0, none⟩))
 ql : a.q < w.heap.size
 nc : a.n ≤ a.c ∧ a.c ≤ maxLen
 nd : ∀ i, i < a.n → NodeAt w (a.gi i) (a.mb i) K (S i)
 sN : ∀ i, i < a.n → (S i).N = a.n ∧ (S i).id = i ∧ (S i).p = p
 ad : a.Fine
 du : ∀ u, uv.ownBlock = some u → u ≠ a.N ∧ u ≠ a.q ∧ ∀ i, i < a.n → u ≠ a.gi i ∧ u ≠ a.mb i
 has : ∀ L ∈ us, LHas a.n L
def NetMine (a : NAd) (uv : Value) (k : Nat) : Prop := k = a.g ∨ uv.ownBlock = some k ∨ ∃ i, i < a.n ∧ (k = a.gi i ∨ k = a.mb i)
def updS (S : Nat → NSt) (d : Nat) (s : NSt) (i : Nat) : NSt := if i = d then s else S i
variable {w w' : World} {a : NAd} {ss rs : List Int} {p t t' : Int} {uv uv' : Value} {us us' : List RLetter} {K K' : Nat} {S : Nat → NSt}
theorem NetAt.below (h : NetAt w a ss rs p t uv us K S) (hb : Below w.heap.size w w') : NetAt w' a ss rs p t uv us K S :=
 ⟨h.net.below hb h.net.lt, h.W.below hb, fun i hi => (hb.cell (p := ⟨a.q, i, none⟩) h.ql).trans (h.row i hi), Nat.lt_of_lt_of_le h.ql hb.size, h.nc, fun i hi => (h.nd i hi).below hb, h.sN, h.ad, h.du, h.has⟩
theorem NetAt.mono (h : NetAt w a ss rs p t uv us K S) (hK : K ≤ K') : NetAt w a ss rs p t uv us K' S :=
 ⟨h.net, h.W, h.row, h.ql, h.nc, fun i hi => (h.nd i hi).mono hK, h.sN, h.ad, h.du, h.has⟩
theorem NetAt.world (h : NetAt w a ss rs p t uv us K S) (hW : WorldU w' a.g a.B a.n ss rs t' uv' us') (hK : Kept (Mine a.g uv) w w') (hq : ∀ q, uv'.ownBlock = some q → uv.ownBlock = some q ∨ w.heap.size ≤ q) (hu : ∀ L ∈ us', LHas a.n L) : NetAt w' a ss rs p t' uv' us' K S := by
 have gB := h.W.gB
 have ad := h.ad
 have hn : ∀ k, (k = a.N ∨ k = a.q ∨ ∃ i, i < a.n ∧ (k = a.gi i ∨ k = a.mb i)) → ¬ Mine a.g uv k := by
  intro k hk e
  have hk2 : a.B ≤ k := by
   rcases hk with rfl | rfl | ⟨i, hi, rfl | rfl⟩
   ·exact ad.BN
   ·exact ad.Bq
   ·exact (ad.Bg i hi).1
   ·exact (ad.Bg i hi).2.1
  rcases e with e | e
  ·omega
  ·obtain ⟨d1, d2, d3⟩ := h.du k e
   rcases hk with hk | hk | ⟨i, hi, hk | hk⟩
   ·exact d1 hk
   ·exact d2 hk
   ·exact (d3 i hi).1 hk
   ·exact (d3 i hi).2 hk
 refine ⟨(hK.block a.N h.net.lt (hn _ (.inl rfl))).trans h.net, hW, fun i hi => (World.cell?_of_block (hK.block a.q h.ql (hn _ (.inr (.inl rfl))))).trans (h.row i hi), Nat.lt_of_lt_of_le h.ql hK.size, h.nc, fun i hi => (h.nd i hi).other hK (hn _ (.inr (.inr ⟨i, hi, .inl rfl⟩))) (hn _ (.inr (.inr ⟨i, hi, .inr rfl⟩))), h.sN, h.ad, fun u e => ?_, hu⟩
 rcases hq u e with h1 | h1
 ·exact h.du u h1
 ·have := h.net.lt
  have := h.ql
  refine ⟨by omega, by omega, fun i hi => ⟨?_, ?_⟩⟩
  ·have := (h.nd i hi).blk.lt; omega
  ·have := (h.nd i hi).mp.lt; omega
theorem NetAt.hear {d : Nat} {s' : NSt} (h : NetAt w a ss rs p t uv us K S) (hd : d < a.n) (hN : NodeAt w' (a.gi d) (a.mb d) K' s') (hKK : K ≤ K') (hK : Kept (NMine (a.gi d) (a.mb d)) w w') (hs : s'.N = a.n ∧ s'.id = d ∧ s'.p = p) : NetAt w' a ss rs p t uv us K' (updS S d s') := by
 have ad := h.ad
 obtain ⟨b1, b2, b3, b4, b5, b6⟩ := ad.Bg d hd
 refine ⟨(hK.block a.N h.net.lt (fun e => by rcases e with e | e <;> omega)).trans h.net, h.W.other hK (fun k e => ?_), fun i hi => (World.cell?_of_block (hK.block a.q h.ql (fun e => by rcases e with e | e <;> omega))).trans (h.row i hi), Nat.lt_of_lt_of_le h.ql hK.size, h.nc, fun i hi => ?_, fun i hi => ?_, h.ad, h.du, h.has⟩
 ·refine ⟨by rcases e with e | e <;> omega, fun e2 => ?_⟩
  obtain ⟨_, _, d3⟩ := h.du k e2
  rcases e with e | e
  ·exact (d3 d hd).1 e
  ·exact (d3 d hd).2 e
 ·unfold updS
  by_cases c : i = d
  ·subst c; rw [if_pos rfl]; exact hN
  ·rw [if_neg c]
   obtain ⟨e1, e2, e3⟩ := ad.dd i d hi hd c
   obtain ⟨f1, f2, f3⟩ := ad.dd d i hd hi (fun e => c e.symm)
   exact ((h.nd i hi).mono hKK).other hK (fun e => by rcases e with e | e; exact e1 e; exact e2 e) (fun e => by rcases e with e | e; exact f2 e.symm; exact e3 e)
 ·unfold updS
  by_cases c : i = d
  ·subst c; rw [if_pos rfl]; exact hs
  ·rw [if_neg c]; exact h.sN i hi
theorem Hears.keeps {s s' : NSt} {L : RLetter} {here : Int} {b : Bool} {c : Int} (h : Hears s L here b c s') : s'.N = s.N ∧ s'.id = s.id ∧ s'.p = s.p := by
 cases h <;> exact ⟨rfl, rfl, rfl⟩
inductive NAct (n : Nat) (ss rs : List Int) (t : Int) (us : List RLetter) (S : Nat → NSt) : RAct → Int → Int → List RLetter → (Nat → NSt) → Prop
 | quiet (A : RAct) (c t' : Int) (us' : List RLetter) (h : WAct n ss rs t us A c none t' us') : NAct n ss rs t us S A c t' us' S
 | bad (A : RAct) (t' : Int) (us' : List RLetter) (L : RLetter) (d : Nat) (s r : Int) (b : Bool) (c : Int) (s' : NSt) (h : WAct n ss rs t us A 0 (some L) t' us') (hd : L.dst = (d : Int)) (hs : ss[d]? = some s) (hr : rs[d]? = some r) (hh : Hears (S d) L (readV s r t') b c s') (hc : c ≠ 0) : NAct n ss rs t us S A c t' us' (updS S d s')
 | told (A : RAct) (t' : Int) (us' : List RLetter) (L : RLetter) (d : Nat) (s r : Int) (b : Bool) (s' : NSt) (h : WAct n ss rs t us A 0 (some L) t' us') (hd : L.dst = (d : Int)) (hs : ss[d]? = some s) (hr : rs[d]? = some r) (hh : Hears (S d) L (readV s r t') b 0 s') (ha : L.answer = true) : NAct n ss rs t us S A 0 t' us' (updS S d s')
 | asked (A : RAct) (t' : Int) (us' us'' : List RLetter) (L : RLetter) (d : Nat) (s r : Int) (b : Bool) (c : Int) (s' : NSt) (h : WAct n ss rs t us A 0 (some L) t' us') (hd : L.dst = (d : Int)) (hs : ss[d]? = some s) (hr : rs[d]? = some r) (hh : Hears (S d) L (readV s r t') b 0 s') (ha : L.answer = false) (hw : WAns n ss rs t' us' L c us'') : NAct n ss rs t us S A c t' us'' (updS S d s')
theorem nact_total (n : Nat) (ss rs : List Int) (t : Int) (us : List RLetter) (S : Nat → NSt) (A : RAct) (ls : ss.length = n) (lr : rs.length = n) (hu : ∀ L ∈ us, LHas n L) : ∃ c t' us' S', NAct n ss rs t us S A c t' us' S' := by
 obtain ⟨c, got, t', us', h⟩ := act_total n ss rs t us A ls lr
 cases got with
 | none => exact ⟨_, _, _, _, .quiet A c t' us' h⟩
 | some L =>
  obtain ⟨_, hg⟩ := h.has ls hu
  obtain ⟨⟨_, hL⟩, rfl, _, _⟩ := hg L rfl
  obtain ⟨d, hd⟩ : ∃ d : Nat, L.dst = (d : Int) := ⟨L.dst.toNat, by omega⟩
  have hdn : d < n := by omega
  have hs : ss[d]? = some ss[d] := List.getElem?_eq_getElem (by omega)
  have hr : rs[d]? = some rs[d] := List.getElem?_eq_getElem (by omega)
  obtain ⟨b, c, s', hh⟩ := hears_total (S d) L (readV ss[d] rs[d] t')
  by_cases hc : c = 0
  ·subst hc
   cases ha : L.answer
   ·obtain ⟨c2, us'', hw⟩ := ans_total n ss rs t' us' L ls lr
    exact ⟨_, _, _, _, .asked A t' us' us'' L d _ _ b c2 s' h hd hs hr hh ha hw⟩
   ·exact ⟨_, _, _, _, .told A t' us' L d _ _ b s' h hd hs hr hh ha⟩
  ·exact ⟨_, _, _, _, .bad A t' us' L d _ _ b c s' h hd hs hr hh hc⟩
end


section
open Go.RowKit
def hereAt (ss rs : List Int) (t : Int) (i : Nat) : Int := readV (ss.getD i 0) (rs.getD i 0) t
def netC (h : Nat → Int) (S : Nat → NSt) : Nat → Int
 | 0 => 0
 | k + 1 => if netC h S k = 0 then tellC (S k) (h k) else netC h S k
def netL (h : Nat → Int) (S : Nat → NSt) (k : Nat) : List REdge := (List.range k).flatMap fun i => tellE (S i) (h i)
def netE (h : Nat → Int) (S : Nat → NSt) (k : Nat) : List REdge := if netC h S k = 0 then netL h S k else []
theorem netL_succ (h : Nat → Int) (S : Nat → NSt) (k : Nat) : netL h S (k + 1) = netL h S k ++ tellE (S k) (h k) := by
 unfold netL; rw [List.range_succ, List.flatMap_append, List.flatMap_cons, List.flatMap_nil, List.append_nil]
theorem netC_stays {h : Nat → Int} {S : Nat → NSt} {k n : Nat} (hk : netC h S k ≠ 0) (hn : k ≤ n) : netC h S n = netC h S k := by
 induction n with
 | zero =>
      have : k = 0 := by omega
      subst this; rfl
 | succ n ih =>
  by_cases c : k = n + 1
  ·subst c; rfl
  ·have := ih (by omega)
   show (if netC h S n = 0 then tellC (S n) (h n) else netC h S n) = netC h S k
   rw [if_neg (by rw [this]; exact hk), this]
theorem netL_len {h : Nat → Int} {S : Nat → NSt} {n : Nat} (hN : ∀ i, i < n → (S i).N = n) (k : Nat) (hk : k ≤ n) : (netL h S k).length ≤ k * n := by
 induction k with
 | zero => simp [netL]
 | succ k ih =>
  rw [netL_succ, List.length_append, Nat.succ_mul]
  have := ih (by omega)
  have := tellE_len (S k) (h k)
  rw [hN k (by omega)] at this
  omega
theorem hereAt_eq {ss rs : List Int} {t : Int} {i : Nat} {s r : Int} (hs : ss[i]? = some s) (hr : rs[i]? = some r) : hereAt ss rs t i = readV s r t := by
 unfold hereAt
 rw [List.getD_eq_getElem?_getD, List.getD_eq_getElem?_getD, hs, hr]; rfl
theorem NetAt.at_ {w : World} {a : NAd} {ss rs : List Int} {p t : Int} {uv : Value} {us : List RLetter} {K : Nat} {S : Nat → NSt} (h : NetAt w a ss rs p t uv us K S) {i : Nat} (hi : i < a.n) : ∃ s r, ss[i]? = some s ∧ rs[i]? = some r ∧ hereAt ss rs t i = readV s r t ∧ (0 ≤ s ∧ s ≤ 1000000) ∧ (-1000 ≤ r ∧ r ≤ 1000) := by
 obtain ⟨_, hs⟩ : ∃ z, ss[i]? = some z := ⟨_, List.getElem?_eq_getElem (by rw [h.W.ls]; exact hi)⟩
 obtain ⟨_, hr⟩ : ∃ z, rs[i]? = some z := ⟨_, List.getElem?_eq_getElem (by rw [h.W.lr]; exact hi)⟩
 exact ⟨_, _, hs, hr, hereAt_eq hs hr, h.W.sb i _ hs, h.W.rb i _ hr⟩
theorem edge_oneT (z : REdge) : ∀ u ∈ REdge.cells z, u.oneCell' = true := by
 intro u hu
 simp [REdge.cells] at hu
 rcases hu with rfl | rfl | rfl | rfl <;> rfl
theorem infoEdgeT : (Tryz.prog.info? 208).map (fun i => (i.zero, i.size, i.bytes)) = some (some (.agg #[.int .i64 0, .int .i64 0, .int .i64 0, .int .i64 0]), 4, 32) := by kernel_rfl
set_option maxRecDepth 100000 in
set_option maxHeartbeats 8000000 in
theorem net_Edges (a : NAd) (ss rs : List Int) (p t : Int) (uv : Value) (us : List RLetter) (K : Nat) (S : Nat → NSt) (w : World) (h : NetAt w a ss rs p t uv us K S) :
  Calls Tryz.prog 97 #[.pointer (some ⟨a.N, 0, none⟩)] w fun e w' => EdgesTold w w' e (netE (hereAt ss rs t) S a.n) (netC (hereAt ss rs t) S a.n) := by
 obtain ⟨i0, hi, hz0, hz1, hz2⟩ := info_parts infoEdgeT
 have HU := Lib.hid h
 have n6 := h.W.n6
 have kN := h.net.lt
 have c1 := h.net.cell 1
 simp at c1
 have hnc := h.nc.1
 have hcm := h.nc.2
 unfold maxLen at hcm
 have kq := h.ql
 have hlens := fun k hk => netL_len (h := hereAt ss rs t) (S := S) (n := a.n) (fun i hi => (h.sN i hi).1) k hk
 have HLens := Lib.hid hlens
 have HEok := Lib.hid (fun k (hk : k ≤ a.n) => show ∀ z ∈ netL (hereAt ss rs t) S k, z.ok from fun z hz => by
  obtain ⟨i, hi, hz⟩ := List.mem_flatMap.1 hz
  exact tellE_ok (h.nd i (by have := List.mem_range.1 hi; omega)).ok z hz)
 clear h hlens
 go_enter Tryz.func97, Tryz.ntmps97
 go_wp2_with fail
 go_loopw [4, 15] (fun vv iv wr => ∃ i : Nat, iv = .int .i64 i ∧ i ≤ a.n ∧ netC (hereAt ss rs t) S i = 0 ∧ wr.ownsRow w.heap.size 208 4 vv (netL (hereAt ss rs t) S i).length ((netL (hereAt ss rs t) S i).flatMap REdge.cells) ∧ Below w.heap.size w wr) (fun _ iv _ => a.n - (intOf iv).toNat)
 case atStart => exact ⟨0, rfl, by omega, rfl, by simpa [netL] using own_nil _ _ _ _, Below.refl _ _⟩
 case round =>
  obtain ⟨i, rfl, hi', hC, hO, hB⟩ := hrel
  have HO := Lib.hid hO
  have HBr := Lib.hid hB
  have HC := Lib.hid hC
  have hzr := hB.size
  have HNr := Lib.hid (HU.out.below hB)
  by_cases d1 : i < a.n
  ·have zr : wr.cell? ⟨a.q, i, none⟩ = some (.pointer (some ⟨a.gi i, 0, none⟩)) := HNr.out.row i d1
   have z0 : wr.cell? ⟨a.N, 0, none⟩ = some (.pointer (some ⟨a.g, 0, none⟩)) := by have := HNr.out.net.cell 0; simpa using this
   have g1 : (i : Int) < (a.n : Int) := by omega
   obtain ⟨sv, rv, hs, hr, hh, _, _⟩ := HU.out.at_ d1
   have CR := Lib.hid (by have := world_Read a.g a.n ss rs t uv i sv rv wr HNr.out.W.at hs hr; rw [← hh] at this; exact this)
   have hq : a.q < wr.heap.size := HNr.out.ql
   have hlen := HLens.out i (by omega)
   have hmul : i * a.n ≤ 36 := by have := Nat.mul_le_mul (show i ≤ 6 by omega) n6; omega
   obtain ⟨L, hL⟩ : ∃ L, netL (hereAt ss rs t) S i = L := ⟨_, rfl⟩
   rw [hL] at HO hlen
   have HL := Lib.hid hL
   obtain ⟨here, hhere⟩ : ∃ v, hereAt ss rs t i = v := ⟨_, rfl⟩
   rw [hhere] at CR
   have HH := Lib.hid hhere
   clear hO hB hC hs hr hh hL hhere
   go_wp2_with fail
   refine CR.out.mono ?_
   rintro e w2 ⟨rfl, hb2⟩
   have HB2 := Lib.hid hb2
   have hz2' := hb2.size
   have CE := Lib.hid (node_Edges (a.gi i) (a.mb i) K (S i) here w2 ((HNr.out.below hb2).nd i d1))
   clear hb2 CR z0 zr
   go_wp2_with fail
   refine CE.out.mono ?_
   rintro e w3 ⟨A3, n3, k3, rfl, hI3, hb3⟩
   have HB3 := Lib.hid (HB2.out.trans (hb3.mono HB2.out.size))
   have hz3 := HB3.out.size
   by_cases hc : tellC (S i) here = 0
   ·have hn3 : n3 = (tellE (S i) here).length := hI3.1.symm
    have hlt : n3 ≤ 6 := by rw [hn3]; have := tellE_len (S i) here; rw [(HU.out.sN i d1).1] at this; omega
    have HI3 := Lib.hid hI3
    have HN3 := Lib.hid hn3
    have HO3 := Lib.hid (own_below HO.out HB3.out)
    have HCC := Lib.hid (show netC (hereAt ss rs t) S (i + 1) = 0 by show (if netC (hereAt ss rs t) S i = 0 then tellC (S i) (hereAt ss rs t i) else _) = 0; rw [if_pos HC.out, HH.out]; exact hc)
    rw [hc]
    clear hI3 hb3 CE hn3 HO hc
    go_wp2_with (at_builtin; refine wpList_append_recs REdge.cells REdge.ok 4 (fun _ => rfl) edge_oneT _ rfl _ _ 117 rfl w.heap.size 208 i0 _ 32 Tryz.underlying117 hi hz0 hz1 hz2 rfl (by decide) _ L.length (L.flatMap REdge.cells) rfl HO3.out A3 n3 k3 (tellE (S i) here) rfl HI3.out (by unfold maxLen; omega) (by omega) (by omega) ?_; intro v5 w5 ho5 hg5)
    have HO5 := Lib.hid (show w5.ownsRow w.heap.size 208 4 v5 (netL (hereAt ss rs t) S (i + 1)).length ((netL (hereAt ss rs t) S (i + 1)).flatMap REdge.cells) from by
     rw [netL_succ, HH.out, HL.out, List.length_append, List.flatMap_append, ← HN3.out]; exact ho5)
    have HB5 := Lib.hid ((HBr.out.trans (HB3.out.mono hzr)).grown hg5 (by omega) (fun k hk => (HO3.out.lt k hk).1))
    clear ho5 hg5 HO3 HI3
    go_wp2_with fail
    go_roundw
    case rel => exact ⟨i + 1, by go_num, by omega, HCC.out, HO5.out, HB5.out⟩
    case measure => go_light; simp [intOf]; omega
   ·have HCC := Lib.hid (show netC (hereAt ss rs t) S a.n = tellC (S i) here by
     have e : netC (hereAt ss rs t) S (i + 1) = tellC (S i) here := by show (if netC (hereAt ss rs t) S i = 0 then tellC (S i) (hereAt ss rs t i) else _) = _; rw [if_pos HC.out, HH.out]
     rw [← e]; exact netC_stays (by rw [e]; exact hc) (by omega))
    have HEE := Lib.hid (show netE (hereAt ss rs t) S a.n = [] by unfold netE; rw [HCC.out, if_neg hc])
    have HBw := Lib.hid (HBr.out.trans (HB3.out.mono hzr))
    obtain ⟨c, hcc⟩ : ∃ c, tellC (S i) here = c := ⟨_, rfl⟩
    rw [hcc] at hc HCC ⊢
    rw [errV_ne hc]
    clear hI3 hb3 CE hcc
    go_wp2_with fail
    refine bodyPost_ret (v := .tuple #[.slice none 0 0, .iface 88 (.int .i64 c)]) (by simp [results, Tryz.results97, go_sem]) rfl ?_
    exact ⟨none, 0, 0, by rw [HCC.out, errV_ne hc], by rw [HEE.out]; exact recs_nil _ _ _ _, HBw.out⟩
  ·obtain rfl : i = a.n := by omega
   obtain ⟨A9, n9, c9, e9, hI9⟩ := own_recs REdge.cells REdge.ok 4 (fun _ => rfl) hO (HEok.out a.n (Nat.le_refl _))
   have HI9 := Lib.hid hI9
   have HEE := Lib.hid (show netE (hereAt ss rs t) S a.n = netL (hereAt ss rs t) S a.n by unfold netE; rw [if_pos hC])
   rw [e9]
   clear hO HO hB hI9 e9 hC
   go_wp2_with fail
   refine bodyPost_ret (v := .tuple #[.slice A9 n9 c9, .nilIface]) (by simp [results, Tryz.results97, go_sem]) rfl ?_
   exact ⟨_, _, _, by rw [HC.out]; rfl, by rw [HEE.out]; exact HI9.out, HBr.out⟩
theorem net_Show (a : NAd) (ss rs : List Int) (p t : Int) (uv : Value) (us : List RLetter) (K : Nat) (S : Nat → NSt) (i : Nat) (w : World) (h : NetAt w a ss rs p t uv us K S) (hi : i < a.n) :
  Calls Tryz.prog 65 #[.pointer (some ⟨a.N, 0, none⟩), .int .i64 i] w fun e w' => e = .returned (.tuple #[.int .i64 (hereAt ss rs t i), .nilIface]) ∧ Below w.heap.size w w' := by
 obtain ⟨sv, rv, hs, hr, hh, _, _⟩ := h.at_ hi
 have CR := Lib.hid (by have := world_Read a.g a.n ss rs t uv i sv rv w h.W.at hs hr; rw [← hh] at this; exact this)
 have c0 := h.net.cell 0
 simp at c0
 clear h hs hr hh
 go_enter Tryz.func65, Tryz.ntmps65
 go_wp2_with fail
 refine CR.out.mono ?_
 rintro e w2 ⟨rfl, hb2⟩
 go_wp2_with fail
 go_ret2
 exact ⟨rfl, hb2⟩
end


section
open Go.RowKit
def OffS (n : Nat) (h : Nat → Int) (S : Nat → NSt) (a b : Int) (x : RSpan) (c : Int) : Prop :=
 ((nodeB n a && nodeB n b) = false ∧ c = 1 ∧ x = ⟨0, 0⟩) ∨ ((nodeB n a && nodeB n b) = true ∧ ((netC h S n ≠ 0 ∧ c = netC h S n ∧ x = ⟨0, 0⟩) ∨ (netC h S n = 0 ∧ BetS n (netL h S n) a b x c)))
def OffP (n : Nat) (h : Nat → Int) (S : Nat → NSt) (a b : Int) (w w' : World) (e : Ending) : Prop :=
 ∃ (x : RSpan) (c : Int), e = .returned (.tuple #[.agg #[.int .i64 x.lo, .int .i64 x.hi], errV c]) ∧ OffS n h S a b x c ∧ Below w.heap.size w w'
set_option maxRecDepth 100000 in
set_option maxHeartbeats 8000000 in
theorem net_Offset (a : NAd) (ss rs : List Int) (p t : Int) (uv : Value) (us : List RLetter) (K : Nat) (S : Nat → NSt) (i k : Int) (w : World) (h : NetAt w a ss rs p t uv us K S) :
  Calls Tryz.prog 67 #[.pointer (some ⟨a.N, 0, none⟩), .int .i64 i, .int .i64 k] w fun e w' => OffP a.n (hereAt ss rs t) S i k w w' e := by
 have HU := Lib.hid h
 have kN := h.net.lt
 have c1 := h.net.cell 1
 simp at c1
 have hnc := h.nc.1
 have hcm := h.nc.2
 unfold maxLen at hcm
 have CE := Lib.hid (fun W (hb : Below w.heap.size w W) => net_Edges a ss rs p t uv us K S W (h.below hb))
 clear h
 cases hnd : (nodeB (a.n : Int) i && nodeB (a.n : Int) k)
 ·have HO := Lib.hid (show OffS a.n (hereAt ss rs t) S i k ⟨0, 0⟩ 1 from .inl ⟨hnd, rfl, rfl⟩)
  obtain ⟨x, hx⟩ : ∃ x, nodeB (a.n : Int) i = x := ⟨_, rfl⟩
  obtain ⟨y, hy⟩ : ∃ x, nodeB (a.n : Int) k = x := ⟨_, rfl⟩
  have C1 := Lib.hid (fun w => by have := Node_any (a.n : Int) i w; rw [hx] at this; exact this)
  have C2 := Lib.hid (fun w => by have := Node_any (a.n : Int) k w; rw [hy] at this; exact this)
  rw [hx, hy] at hnd
  have hd : x = false ∨ (x = true ∧ y = false) := by cases x; exact .inl rfl; exact .inr ⟨rfl, by simpa using hnd⟩
  clear hnd hx hy CE
  rcases hd with rfl | ⟨rfl, rfl⟩
  all_goals
   go_enter Tryz.func67, Tryz.ntmps67
   go_wp2_with (first | (go_at_call 57; (with_reducible refine (C1.out _).mono ?_); rintro e w' ⟨rfl, rfl⟩) | (go_at_call 57; (with_reducible refine (C2.out _).mono ?_); rintro e w' ⟨rfl, rfl⟩))
   refine bodyPost_ret (v := .tuple #[.agg #[.int .i64 0, .int .i64 0], .iface 88 (.int .i64 1)]) (by simp [results, Tryz.results67, go_sem]) rfl ?_
   exact ⟨⟨0, 0⟩, 1, rfl, HO.out, BeL⟩
 ·have HND := Lib.hid hnd
  rw [Bool.and_eq_true] at hnd
  have C1 := Lib.hid (fun w => by have := Node_any (a.n : Int) i w; rw [hnd.1] at this; exact this)
  have C2 := Lib.hid (fun w => by have := Node_any (a.n : Int) k w; rw [hnd.2] at this; exact this)
  clear hnd
  go_enter Tryz.func67, Tryz.ntmps67
  go_wp2_with (first | (go_at_call 57; (with_reducible refine (C1.out _).mono ?_); rintro e w' ⟨rfl, rfl⟩) | (go_at_call 57; (with_reducible refine (C2.out _).mono ?_); rintro e w' ⟨rfl, rfl⟩))
  refine (CE.out _ (by exact BeL)).mono ?_
  rintro e w1 ⟨A, n, c, rfl, hI, hb1⟩
  have hbr : Blk w1 w.heap.size 34 #[.int .i64 0, .int .i64 0] := (Blk.new w _ _).below hb1 (by simp)
  have HB1 := Lib.hid (show Below w.heap.size w w1 by exact BeL)
  have r0 : w1.cell? ⟨w.heap.size, 0, none⟩ = some (.int .i64 0) := hbr.cell 0
  have r1 : w1.cell? ⟨w.heap.size, 1, none⟩ = some (.int .i64 0) := hbr.cell 1
  have f0 : w1.frozen? ⟨w.heap.size, 0, none⟩ = false := hbr.fz 0
  have f1 : w1.frozen? ⟨w.heap.size, 1, none⟩ = false := hbr.fz 1
  have hl := hbr.lt
  have HI := Lib.hid hI
  have HBr := Lib.hid hbr
  clear hI hb1 hbr CE
  by_cases hc : netC (hereAt ss rs t) S a.n = 0
  ·have HC := Lib.hid hc
   have y1 : w1.cell? ⟨a.N, 1, none⟩ = some (.slice (some ⟨a.q, 0, none⟩) a.n a.c) := (HB1.out.cell (p := ⟨a.N, 1, none⟩) kN).trans c1
   have CBt := Lib.hid (bounds_Between (a.n : Int) A n c (netL (hereAt ss rs t) S a.n) i k w1 (by have := HI.out; unfold netE at this; rw [if_pos hc] at this; exact this))
   rw [hc]
   clear hc
   go_wp2_with fail
   refine CBt.out.mono ?_
   rintro e w2 ⟨x, c', rfl, hS, hb2⟩
   have HS := Lib.hid hS
   have hbr2 := HBr.out.below hb2 hl
   have r0 : w2.cell? ⟨w.heap.size, 0, none⟩ = some (.int .i64 0) := hbr2.cell 0
   have r1 : w2.cell? ⟨w.heap.size, 1, none⟩ = some (.int .i64 0) := hbr2.cell 1
   have f0 : w2.frozen? ⟨w.heap.size, 0, none⟩ = false := hbr2.fz 0
   have f1 : w2.frozen? ⟨w.heap.size, 1, none⟩ = false := hbr2.fz 1
   have hl2 := hbr2.lt
   have hB2 : Below w.heap.size w w2 := HB1.out.trans (hb2.mono HB1.out.size)
   have hF : Blk ((w2.setCell ⟨w.heap.size, 0, none⟩ (.int .i64 x.lo)).setCell ⟨w.heap.size, 1, none⟩ (.int .i64 x.hi)) w.heap.size 34 #[.int .i64 x.lo, .int .i64 x.hi] := ((hbr2.set 0 _).set 1 _).conv rfl
   have z0 : ((w2.setCell ⟨w.heap.size, 0, none⟩ (.int .i64 x.lo)).setCell ⟨w.heap.size, 1, none⟩ (.int .i64 x.hi)).cell? ⟨w.heap.size, 0, none⟩ = some (.int .i64 x.lo) := hF.cell 0
   have z1 : ((w2.setCell ⟨w.heap.size, 0, none⟩ (.int .i64 x.lo)).setCell ⟨w.heap.size, 1, none⟩ (.int .i64 x.hi)).cell? ⟨w.heap.size, 1, none⟩ = some (.int .i64 x.hi) := hF.cell 1
   obtain ⟨E, hE⟩ : ∃ E, errV c' = E := ⟨_, rfl⟩
   rw [hE]
   have HE := Lib.hid hE
   clear hS hb2 hbr2 CBt hF hE
   go_wp2_with fail
   refine bodyPost_ret (v := .tuple #[.agg #[.int .i64 x.lo, .int .i64 x.hi], E]) (by simp [results, Tryz.results67, go_sem, r0, r1]) rfl ?_
   exact ⟨x, c', by rw [HE.out], .inr ⟨HND.out, .inr ⟨HC.out, HS.out⟩⟩, BeL⟩
  ·have HO := Lib.hid (show OffS a.n (hereAt ss rs t) S i k ⟨0, 0⟩ (netC (hereAt ss rs t) S a.n) from .inr ⟨HND.out, .inl ⟨hc, rfl, rfl⟩⟩)
   obtain ⟨cc, hcc⟩ : ∃ cc, netC (hereAt ss rs t) S a.n = cc := ⟨_, rfl⟩
   rw [hcc] at hc HO ⊢
   rw [errV_ne hc]
   clear hcc HI
   go_wp2_with fail
   refine bodyPost_ret (v := .tuple #[.agg #[.int .i64 0, .int .i64 0], .iface 88 (.int .i64 cc)]) (by simp [results, Tryz.results67, go_sem, r0, r1]) rfl ?_
   have hB1 := HB1.out
   exact ⟨⟨0, 0⟩, cc, by rw [errV_ne hc], HO.out, BeL⟩
end


section
open Go.RowKit
def wideRow (F : Nat → Nat → Int) (i : Nat) : Nat → Int
 | 0 => 0
 | m + 1 => wideRow F i m + F i (i + 1 + m)
def wideAll (F : Nat → Nat → Int) (N : Nat) : Nat → Int
 | 0 => 0
 | i + 1 => wideAll F N i + wideRow F i (N - (i + 1))
def wideF (D : Nat → Nat → Int) (i k : Nat) : Int := if D i k < farI then D i k + D k i else 0
theorem wideRow_bd {F : Nat → Nat → Int} {N i : Nat} (hi : i < N) (hF : ∀ i k, i < N → k < N → -2000000000000 ≤ F i k ∧ F i k ≤ 2000000000000) : ∀ m, i + 1 + m ≤ N → -((m : Int) * 2000000000000) ≤ wideRow F i m ∧ wideRow F i m ≤ (m : Int) * 2000000000000
 | 0, _ => by simp [wideRow]
 | m + 1, h => by
  have h1 := wideRow_bd hi hF m (by omega)
  have h2 := hF i (i + 1 + m) hi (by omega)
  show _ ≤ wideRow F i m + F i (i + 1 + m) ∧ wideRow F i m + F i (i + 1 + m) ≤ _
  omega
theorem wideAll_bd {F : Nat → Nat → Int} {N : Nat} (h6 : N ≤ 6) (hF : ∀ i k, i < N → k < N → -2000000000000 ≤ F i k ∧ F i k ≤ 2000000000000) : ∀ i, i ≤ N → -((i : Int) * 12000000000000) ≤ wideAll F N i ∧ wideAll F N i ≤ (i : Int) * 12000000000000
 | 0, _ => by simp [wideAll]
 | i + 1, h => by
  have h1 := wideAll_bd h6 hF i (by omega)
  have h2 := wideRow_bd (show i < N by omega) hF (N - (i + 1)) (by omega)
  show _ ≤ wideAll F N i + wideRow F i (N - (i + 1)) ∧ wideAll F N i + wideRow F i (N - (i + 1)) ≤ _
  omega
def WideS (N : Nat) (l : List REdge) (v c : Int) : Prop :=
 (Sunk (Arc l) N ∧ c = 7 ∧ v = 0) ∨ (¬ Sunk (Arc l) N ∧ ∃ D : Nat → Nat → Int, Tells (Arc l) N D (fun a b => decide (D a b < farI)) ∧
  ((c = 1 ∧ v = 0 ∧ ∃ a b, a < N ∧ b < N ∧ ¬ timeD D a b) ∨ (c = 0 ∧ (∀ a b, a < N → b < N → timeD D a b) ∧ v = wideAll (wideF D) N N)))
set_option maxRecDepth 100000 in
set_option maxHeartbeats 8000000 in
theorem net_Wide_ok (a : NAd) (ss rs : List Int) (p t : Int) (uv : Value) (us : List RLetter) (K : Nat) (S : Nat → NSt) (w : World) (h : NetAt w a ss rs p t uv us K S) (hc : netC (hereAt ss rs t) S a.n = 0) (he : edgesC a.n (netL (hereAt ss rs t) S a.n) = 0) :
  Calls Tryz.prog 66 #[.pointer (some ⟨a.N, 0, none⟩)] w fun e w' => ∃ v c : Int, e = .returned (.tuple #[.int .i64 v, errV c]) ∧ WideS a.n (netL (hereAt ss rs t) S a.n) v c ∧ Below w.heap.size w w' := by
 have kN := h.net.lt
 have c1 := h.net.cell 1
 simp at c1
 have hnc := h.nc.1
 have hcm := h.nc.2
 unfold maxLen at hcm
 have CE := Lib.hid (net_Edges a ss rs p t uv us K S w h)
 rw [hc, show netE (hereAt ss rs t) S a.n = netL (hereAt ss rs t) S a.n by unfold netE; rw [if_pos hc]] at CE
 obtain ⟨L, eL⟩ : ∃ L, netL (hereAt ss rs t) S a.n = L := ⟨_, rfl⟩
 rw [eL] at CE he ⊢
 have h6 : a.n ≤ 6 := by have := (edgesC_0 he).2.1; omega
 have HE := Lib.hid he
 clear h hc he eL
 go_enter Tryz.func66, Tryz.ntmps66
 go_wp2_with fail
 refine CE.out.mono ?_
 rintro e w1 ⟨A, n, c, rfl, hI, hb1⟩
 have HB1 := Lib.hid hb1
 have y1 : w1.cell? ⟨a.N, 1, none⟩ = some (.slice (some ⟨a.q, 0, none⟩) a.n a.c) := (hb1.cell (p := ⟨a.N, 1, none⟩) kN).trans c1
 have kN1 : a.N < w1.heap.size := Nat.lt_of_lt_of_le kN hb1.size
 have CA := Lib.hid (bounds_All_ok a.n A n c L w1 hI HE.out)
 have hz1 := hb1.size
 clear hI hb1 CE
 go_wp2_with fail
 refine CA.out.mono ?_
 rintro e w2 ⟨A2, n2, c2, B2, m2, d2, k2, rfl, hb2, hP⟩
 have HB2 := Lib.hid (HB1.out.trans (hb2.mono hz1))
 have hz2 := HB2.out.size
 clear hb2 CA HB1
 rcases hP with ⟨hs, rfl⟩ | ⟨hs, D, hD, ⟨rfl, hno⟩ | ⟨rfl, ht, hM, hH⟩⟩
 ·have HS := Lib.hid (show WideS a.n L 0 7 from .inl ⟨hs, rfl, rfl⟩)
  rw [errV_ne (show (7 : Int) ≠ 0 by decide)]
  clear hs
  go_wp2_with fail
  go_ret2
  exact ⟨0, 7, rfl, HS.out, HB2.out⟩
 ·have HS := Lib.hid (show WideS a.n L 0 1 from .inr ⟨hs, D, hD, .inl ⟨rfl, rfl, hno⟩⟩)
  rw [errV_ne (show (1 : Int) ≠ 0 by decide)]
  clear hs hno
  go_wp2_with fail
  go_ret2
  exact ⟨0, 1, rfl, HS.out, HB2.out⟩
 ·have HS := Lib.hid (show WideS a.n L (wideAll (wideF D) a.n a.n) 0 from .inr ⟨hs, D, hD, .inr ⟨rfl, ht, rfl⟩⟩)
  rw [errV_0]
  have HF := Lib.hid (show ∀ i k, i < a.n → k < a.n → -2000000000000 ≤ wideF D i k ∧ wideF D i k ≤ 2000000000000 from fun i k hi hk => by
   unfold wideF
   split
   ·rename_i g
    have := ht i k hi hk g
    rw [timeB_iff, timeB_iff] at this
    omega
   ·omega)
  have HTm := Lib.hid ht
  obtain ⟨rfl, m1, m2', b1, rfl, hl1, hM⟩ := hM
  obtain ⟨rfl, q1, q2, b2, rfl, hl2, hH⟩ := hH
  unfold maxLen at m2' q2
  have HM := Lib.hid hM
  have HH := Lib.hid hH
  clear hs ht hM hH hD
  go_wp2_with fail
  go_loopw [8, 35] (fun sv iv wx => ∃ i : Nat, iv = .int .i64 i ∧ i ≤ a.n ∧ sv = .int .i64 (wideAll (wideF D) a.n i) ∧ Below w2.heap.size w2 wx) (fun _ iv _ => a.n - (intOf iv).toNat)
  case atStart => exact ⟨0, rfl, by omega, rfl, Below.refl _ _⟩
  case round =>
   obtain ⟨i, rfl, hi, rfl, hB⟩ := hrel
   have HB := Lib.hid hB
   have hzi := hB.size
   clear hB
   by_cases g1 : i < a.n
   ·have g2 : (i : Int) < (a.n : Int) := by omega
    have g3 : (0 : Int) ≤ (i : Int) := by omega
    have HQ := Lib.hid (show wideAll (wideF D) a.n (i + 1) = wideAll (wideF D) a.n i + wideRow (wideF D) i (a.n - (i + 1)) from rfl)
    have hwb := Lib.hid (wideAll_bd h6 HF.out i hi)
    obtain ⟨X, eX⟩ : ∃ X, wideAll (wideF D) a.n i = X := ⟨_, rfl⟩
    rw [eX] at HQ hwb ⊢
    clear eX
    obtain ⟨r1, d1, s1, s2, s3, s4, s5⟩ := HM.out i g1
    obtain ⟨r2, e2, t1, t2, t3, t4, t5⟩ := HH.out i g1
    unfold maxLen at s3 t3
    have S5 := Lib.hid s5
    have T5 := Lib.hid t5
    have S1 := Lib.hid s1
    have T1 := Lib.hid t1
    clear s5 t5 s1 t1
    go_wp2_with fail
    go_loopw [8, 10] (fun sv kv wx => ∃ k : Nat, kv = .int .i64 k ∧ i + 1 ≤ k ∧ k ≤ a.n ∧ sv = .int .i64 (X + wideRow (wideF D) i (k - (i + 1))) ∧ Below w2.heap.size w2 wx) (fun _ kv _ => a.n - (intOf kv).toNat)
    case atStart => exact ⟨i + 1, by go_num, by omega, by omega, by simp [wideRow], HB.out⟩
    case round =>
     obtain ⟨k, rfl, hk1, hk2, rfl, hBk⟩ := hrel
     have HBk := Lib.hid hBk
     have hzk := hBk.size
     clear hBk HB hzi
     by_cases m1 : k < a.n
     ·have m2 : (k : Int) < (a.n : Int) := by omega
      have m3 : (0 : Int) ≤ (k : Int) := by omega
      have x0 := (HBk.out.cell (p := ⟨b1, i, none⟩) hl1).trans S1.out
      have x1 := (HBk.out.cell (p := ⟨b2, i, none⟩) hl2).trans T1.out
      have x2 := (HBk.out.cell (p := ⟨r2, k * 1 + 0, none⟩) t4).trans (T5.out k m1 0 _ rfl)
      simp only [Nat.mul_one, Nat.add_zero] at x2
      have hrow := Lib.hid (show wideRow (wideF D) i (k + 1 - (i + 1)) = wideRow (wideF D) i (k - (i + 1)) + wideF D i k by
       rw [show k + 1 - (i + 1) = (k - (i + 1)) + 1 by omega]
       show _ + wideF D i (i + 1 + (k - (i + 1))) = _
       rw [show i + 1 + (k - (i + 1)) = k by omega])
      have hrb := wideRow_bd g1 HF.out (k - (i + 1)) (by omega)
      obtain ⟨Y, eY⟩ : ∃ Y, wideRow (wideF D) i (k - (i + 1)) = Y := ⟨_, rfl⟩
      rw [eY] at hrow hrb ⊢
      have kb1 : b1 < wr.heap.size := by omega
      have kb2 : b2 < wr.heap.size := by omega
      have kr1 : r1 < wr.heap.size := by omega
      have kr2 : r2 < wr.heap.size := by omega
      clear eY
      by_cases hd : D i k < farI
      ·have hval : wideF D i k = D i k + D k i := by unfold wideF; rw [if_pos hd]
       have x3 := (HBk.out.cell (p := ⟨r1, k * 2 + 0, none⟩) s4).trans (S5.out k m1 0 _ rfl)
       have x4 := (HBk.out.cell (p := ⟨r1, k * 2 + 1, none⟩) s4).trans (S5.out k m1 1 _ rfl)
       rw [if_pos hd] at x3 x4
       simp only [Nat.add_zero] at x3
       rw [decide_eq_true hd] at x2
       have tb := HTm.out i k g1 m1 hd
       rw [timeB_iff, timeB_iff] at tb
       rw [hval] at hrow
       obtain ⟨u, eu⟩ : ∃ u, D i k = u := ⟨_, rfl⟩
       obtain ⟨v, ev⟩ : ∃ v, -(D k i) = v := ⟨_, rfl⟩
       have ev2 : D k i = -v := by omega
       rw [eu, ev2] at hrow
       rw [eu] at x4
       rw [ev] at x3
       rw [eu, ev] at tb
       have hw1 := Lib.hid (IntWalk.i64_in (u - v) (by omega))
       have hwx := hwb.out
       have hki : ((k : Nat) : Int) ≤ 6 := by omega
       have hm6 : ((k - (i + 1) : Nat) : Int) * 2000000000000 ≤ 12000000000000 := by omega
       have hi6 : (i : Int) * 12000000000000 ≤ 72000000000000 := by omega
       have hw2 := Lib.hid (IntWalk.i64_in (X + Y + (u - v)) (by omega))
       have HRW := Lib.hid (show X + Y + (u - v) = X + wideRow (wideF D) i (k + 1 - (i + 1)) by rw [hrow.out]; omega)
       clear hval hd tb eu ev ev2 hrow hrb hwx hm6 hi6 hki
       as_aux_lemma =>
        go_upto_if 52 with (fail)
        go_wp2_with fail
        have hw1' := hw1.out
        have hw2' := hw2.out
        go_quiet (fail)
        clear hw1' hw2'
        go_wp2_with fail
        go_roundw
        case rel => exact ⟨k + 1, by go_num, by omega, by omega, by rw [← HRW.out], ⟨HBk.out.os, HBk.out.tape, HBk.out.output, HBk.out.size, HBk.out.block⟩⟩
        case measure => go_light; simp [intOf]; omega
      ·have hval : wideF D i k = 0 := by unfold wideF; rw [if_neg hd]
       rw [decide_eq_false hd] at x2
       rw [hval, Int.add_zero] at hrow
       clear hval hd hrb
       as_aux_lemma =>
        go_upto_if 52 with (fail)
        go_wp2_with fail
        go_roundw
        case rel => exact ⟨k + 1, by go_num, by omega, by omega, by rw [hrow.out], HBk.out⟩
        case measure => go_light; simp [intOf]; omega
     ·obtain rfl : k = a.n := by omega
      go_wp2_with fail
      go_roundw
      case rel => exact ⟨i + 1, by go_num, by omega, by rw [HQ.out], HBk.out⟩
      case measure => go_light; simp [intOf]; omega
   ·obtain rfl : i = a.n := by omega
    go_wp2_with fail
    go_ret2
    exact ⟨_, 0, rfl, HS.out, HB2.out.trans (HB.out.mono hz2)⟩
end


section
open Go.RowKit
theorem netC_each {h : Nat → Int} {S : Nat → NSt} : ∀ {n : Nat}, netC h S n = 0 → ∀ i, i < n → tellC (S i) (h i) = 0
 | 0, _, i, hi => by omega
 | n + 1, hc, i, hi => by
  have e : netC h S (n + 1) = if netC h S n = 0 then tellC (S n) (h n) else netC h S n := rfl
  rw [e] at hc
  by_cases g : netC h S n = 0
  ·rw [if_pos g] at hc
   by_cases c : i = n
   ·subst c; exact hc
   ·exact netC_each g i (by omega)
  ·rw [if_neg g] at hc; exact absurd hc g
theorem netL_edgesC {n : Nat} {h : Nat → Int} {S : Nat → NSt} (h1 : 1 ≤ n) (h6 : n ≤ 6) (sN : ∀ i, i < n → (S i).N = n ∧ (S i).id = i) (hc : netC h S n = 0) : edgesC n (netL h S n) = 0 := by
 have hl := netL_len (h := h) (S := S) (n := n) (fun i hi => (sN i hi).1) n (Nat.le_refl _)
 have hm := Nat.mul_le_mul h6 h6
 unfold edgesC
 rw [if_neg (by omega), if_neg (by omega)]
 refine edgesGo_all fun e he => ?_
 obtain ⟨i, hi, he⟩ := List.mem_flatMap.1 he
 have hi := List.mem_range.1 hi
 have ht := netC_each hc i hi
 unfold tellE at he
 rw [if_pos ht] at he
 obtain ⟨j, hj, he⟩ := List.mem_flatMap.1 he
 have hj' := List.mem_range.1 hj
 obtain ⟨s1, s2⟩ := sN i hi
 have hfar : farAt (S i) (h i) j = false := by
  rcases tell_3 (S i) (h i) with ⟨g, _⟩ | ⟨g, _⟩ | ⟨_, _, g⟩
  ·omega
  ·omega
  ·exact g j hj'
 rw [s1] at hj'
 unfold edgeAt at he
 split at he
 ·rename_i g
  rw [List.mem_singleton] at he
  subst he
  rw [s2] at g ⊢
  obtain ⟨g1, g2⟩ := g
  unfold hasAt at g1
  cases hf : (S i).f j with
  | none => rw [hf, s2] at g1; simp at g1; exact absurd g1 g2
  | some k =>
   unfold farAt at hfar
   rw [hf] at hfar
   have hr : rightB (ageL k (S i).p (h i)) (ageH k (S i).p (h i)) = true := by simpa using hfar
   unfold edgeC spanAt
   rw [hf]
   simp only []
   rw [if_pos ⟨nodeB_iff.2 (by omega), nodeB_iff.2 (by omega)⟩, if_neg (by omega), hr]
   rfl
 ·simp at he
end


section
open Go.RowKit
def BetR (N : Nat) (zs : List REdge) (a b : Int) (x : RSpan) (c : Int) : Prop :=
 (Sunk (Arc zs) N ∧ c = 7 ∧ x = ⟨0, 0⟩) ∨ (¬ Sunk (Arc zs) N ∧ ∃ (D : Nat → Nat → Int) (H : Nat → Nat → Bool), Tells (Arc zs) N D H ∧
  ((TimeS N D H 1 ∧ c = 1 ∧ x = ⟨0, 0⟩) ∨ (TimeS N D H 0 ∧ ∃ i k : Nat, a = i ∧ b = k ∧ i < N ∧ k < N ∧ ((H i k = false ∧ c = 5 ∧ x = ⟨0, 0⟩) ∨ (H i k = true ∧ c = 0 ∧ x = ⟨-(D k i), D i k⟩)))))
def OffR (n : Nat) (h : Nat → Int) (S : Nat → NSt) (a b : Int) (x : RSpan) (c : Int) : Prop :=
 ((nodeB n a && nodeB n b) = false ∧ c = 1 ∧ x = ⟨0, 0⟩) ∨ ((nodeB n a && nodeB n b) = true ∧ ((netC h S n ≠ 0 ∧ c = netC h S n ∧ x = ⟨0, 0⟩) ∨ (netC h S n = 0 ∧ BetR n (netL h S n) a b x c)))
theorem bet_one_way {N : Nat} {zs : List REdge} {a b : Int} {x y : RSpan} {c d : Int} (hc : edgesC N zs = 0) (hn : (nodeB N a && nodeB N b) = true) (h : BetS N zs a b x c) (g : BetR N zs a b y d) : x = y ∧ c = d := by
 rcases g with ⟨g, rfl, rfl⟩ | ⟨g, D, H, hD, g2⟩
 ·rcases h with ⟨h, _⟩ | ⟨_, h, _⟩ | ⟨_, _, ⟨_, h1, h2⟩ | ⟨h, _⟩⟩
  ·exact absurd hc h
  ·rw [hn] at h; cases h
  ·exact ⟨h2, h1⟩
  ·exact absurd g h
 ·rcases g2 with ⟨hF, rfl, rfl⟩ | ⟨hF, i, k, rfl, rfl, hi, hk, g3⟩
  ·rcases bet_tell h hc g hD hF with ⟨h, _⟩ | ⟨i, j, _, _, _, _, ⟨_, h1, h2⟩ | ⟨h, _⟩⟩
   ·rw [hn] at h; cases h
   ·exact ⟨h2, h1⟩
   ·exact absurd h (by decide)
  ·rcases bet_tell h hc g hD hF with ⟨h, _⟩ | ⟨i', j', hi', hj', _, _, ⟨h, _⟩ | ⟨_, h3⟩⟩
   ·rw [hn] at h; cases h
   ·exact absurd h (by decide)
   ·obtain rfl : i = i' := by omega
    obtain rfl : k = j' := by omega
    rcases h3 with ⟨q1, q2, q3⟩ | ⟨q1, q2, q3⟩ <;> rcases g3 with ⟨p1, p2, p3⟩ | ⟨p1, p2, p3⟩
    ·exact ⟨q3.trans p3.symm, q2.trans p2.symm⟩
    ·rw [q1] at p1; cases p1
    ·rw [q1] at p1; cases p1
    ·exact ⟨q3.trans p3.symm, q2.trans p2.symm⟩
theorem off_same {n : Nat} {h : Nat → Int} {S : Nat → NSt} {a b : Int} {x y : RSpan} {c d : Int} (he : netC h S n = 0 → edgesC n (netL h S n) = 0) (p : OffS n h S a b x c) (q : OffR n h S a b y d) : x = y ∧ c = d := by
 rcases p with ⟨p1, p2, p3⟩ | ⟨p1, p2⟩ <;> rcases q with ⟨q1, q2, q3⟩ | ⟨q1, q2⟩
 ·exact ⟨p3.trans q3.symm, p2.trans q2.symm⟩
 ·rw [p1] at q1; cases q1
 ·rw [p1] at q1; cases q1
 ·rcases p2 with ⟨p2, p3, p4⟩ | ⟨p2, p3⟩ <;> rcases q2 with ⟨q2, q3, q4⟩ | ⟨q2, q3⟩
  ·exact ⟨p4.trans q4.symm, p3.trans q3.symm⟩
  ·exact absurd q2 p2
  ·exact absurd p2 q2
  ·exact bet_one_way (he p2) p1 p3 q3
def wideG (D : Nat → Nat → Int) (H : Nat → Nat → Bool) (i k : Nat) : Int := if H i k = true then D i k + D k i else 0
def WideD (N : Nat) (l : List REdge) (v c : Int) : Prop :=
 (Sunk (Arc l) N ∧ c = 7 ∧ v = 0) ∨ (¬ Sunk (Arc l) N ∧ ∃ (D : Nat → Nat → Int) (H : Nat → Nat → Bool), Tells (Arc l) N D H ∧ ((TimeS N D H 1 ∧ c = 1 ∧ v = 0) ∨ (TimeS N D H 0 ∧ c = 0 ∧ v = wideAll (wideG D H) N N)))
def WideA (n : Nat) (h : Nat → Int) (S : Nat → NSt) (v c : Int) : Prop := (netC h S n ≠ 0 ∧ c = netC h S n ∧ v = 0) ∨ (netC h S n = 0 ∧ WideS n (netL h S n) v c)
def WideR (n : Nat) (h : Nat → Int) (S : Nat → NSt) (v c : Int) : Prop := (netC h S n ≠ 0 ∧ c = netC h S n ∧ v = 0) ∨ (netC h S n = 0 ∧ WideD n (netL h S n) v c)
theorem wideRow_congr {F G : Nat → Nat → Int} {N i : Nat} (hi : i < N) (h : ∀ i k, i < N → k < N → F i k = G i k) : ∀ m, i + 1 + m ≤ N → wideRow F i m = wideRow G i m
 | 0, _ => rfl
 | m + 1, hm => by
  show wideRow F i m + F i (i + 1 + m) = wideRow G i m + G i (i + 1 + m)
  rw [wideRow_congr hi h m (by omega), h i (i + 1 + m) hi (by omega)]
theorem wideAll_congr {F G : Nat → Nat → Int} {N : Nat} (h : ∀ i k, i < N → k < N → F i k = G i k) : ∀ i, i ≤ N → wideAll F N i = wideAll G N i
 | 0, _ => rfl
 | i + 1, hi => by
  show wideAll F N i + wideRow F i (N - (i + 1)) = wideAll G N i + wideRow G i (N - (i + 1))
  rw [wideAll_congr h i (by omega), wideRow_congr (show i < N by omega) h (N - (i + 1)) (by omega)]
theorem wide_one_way {N : Nat} {l : List REdge} {v u c d : Int} (h : WideS N l v c) (g : WideD N l u d) : v = u ∧ c = d := by
 rcases g with ⟨g, rfl, rfl⟩ | ⟨g, D, H, hD, g2⟩ <;> rcases h with ⟨h, rfl, rfl⟩ | ⟨h, E, hE, h2⟩
 ·exact ⟨rfl, rfl⟩
 ·exact absurd g h
 ·exact absurd h g
 ·rcases g2 with ⟨hF, rfl, rfl⟩ | ⟨hF, rfl, rfl⟩ <;> rcases h2 with ⟨rfl, rfl, a, b, ha, hb, h3⟩ | ⟨rfl, h3, rfl⟩
  ·exact ⟨rfl, rfl⟩
  ·rcases hF with ⟨hF, _⟩ | ⟨_, a, b, ha, hb, h4, h5⟩
   ·exact absurd hF (by decide)
   ·have := time_yes hD hE ha hb (h3 a b ha hb) h4
    rw [h5] at this; cases this
  ·rcases hF with ⟨_, hF⟩ | ⟨hF, _⟩
   ·exact absurd (time_no hD hE hF ha hb) h3
   ·exact absurd hF (by decide)
  ·refine ⟨wideAll_congr (fun i k hi hk => ?_) N (Nat.le_refl _), rfl⟩
   unfold wideF wideG
   have hh := hD.has hE hi hk
   by_cases q : E i k < farI
   ·have hg : H i k = true := hh.trans (decide_eq_true q)
    rw [if_pos q, if_pos hg, hD.same hE hi hk hg, hD.same hE hk hi (tells_rev hD hi hk hg)]
   ·have hg : H i k = false := hh.trans (decide_eq_false q)
    rw [if_neg q, if_neg (by rw [hg]; simp)]
theorem wide_same {n : Nat} {h : Nat → Int} {S : Nat → NSt} {v u c d : Int} (p : WideA n h S v c) (q : WideR n h S u d) : v = u ∧ c = d := by
 rcases p with ⟨p1, p2, p3⟩ | ⟨p1, p2⟩ <;> rcases q with ⟨q1, q2, q3⟩ | ⟨q1, q2⟩
 ·exact ⟨p3.trans q3.symm, p2.trans q2.symm⟩
 ·exact absurd q1 p1
 ·exact absurd p1 q1
 ·exact wide_one_way p2 q2
end


section
open Go.RowKit
def NetDone (w : World) (a : NAd) (ss rs : List Int) (p : Int) (uv : Value) (c t' : Int) (us' : List RLetter) (K' : Nat) (S' : Nat → NSt) (e : Ending) (w' : World) : Prop :=
 e = .returned (errV c) ∧ ∃ uv', NetAt w' a ss rs p t' uv' us' K' S' ∧ Kept (NetMine a uv) w w' ∧ (∀ q, uv'.ownBlock = some q → uv.ownBlock = some q ∨ w.heap.size ≤ q)
set_option maxRecDepth 100000 in
set_option maxHeartbeats 16000000 in
theorem net_Do_quiet (a : NAd) (ss rs : List Int) (p t t' : Int) (uv : Value) (us us' : List RLetter) (K : Nat) (S : Nat → NSt) (A : RAct) (c : Int) (w : World) (h : NetAt w a ss rs p t uv us K S) (hA : A.ok) (hK : K < 100000) (hw : WAct a.n ss rs t us A c none t' us') :
  Calls Tryz.prog 64 #[.pointer (some ⟨a.N, 0, none⟩), .agg #[.int .i64 A.what, .int .i64 A.a, .int .i64 A.b]] w (NetDone w a ss rs p uv c t' us' (K + 1) S) := by
 have HU := Lib.hid h
 have kN := h.net.lt
 have kg := h.W.at.lt
 have c0 := h.net.cell 0
 have c1 := h.net.cell 1
 simp at c0 c1
 have gB := h.W.gB
 have gN : a.N ≠ a.g := by have := h.ad.BN; omega
 have qg : a.q ≠ a.g := by have := h.ad.Bq; omega
 have kq := h.ql
 have HD := Lib.hid (fun W (hb : Below w.heap.size w W) => act_W hw hA a.g a.B uv W (h.W.below hb))
 have hown : ∀ u, uv.ownBlock = some u → u < w.heap.size := fun u e => (h.W.low u e).2
 have HOwn := Lib.hid hown
 have HF := Lib.hid (fun k (hk : k = a.N ∨ k = a.q) => show ¬ Mine a.g uv k from fun e => by
  rcases e with e | e
  ·rcases hk with hk | hk <;> omega
  ·obtain ⟨d1, d2, _⟩ := h.du k e
   rcases hk with hk | hk
   ·exact d1 hk
   ·exact d2 hk)
 have hhas := (hw.has h.W.ls h.has).1
 clear h hw hown
 go_enter Tryz.func64, Tryz.ntmps64
 go_wp2_with fail
 obtain ⟨W1, hW1⟩ : ∃ W, w.alloc (.cells #[.int .i64 A.what, .int .i64 A.a, .int .i64 A.b] 71) = W := ⟨_, rfl⟩
 have HB1 : Below w.heap.size w W1 := by rw [← hW1]; exact BeL
 have hs1 : W1.heap.size = w.heap.size + 1 := by rw [← hW1]; simp
 have bx : Blk W1 w.heap.size 71 #[.int .i64 A.what, .int .i64 A.a, .int .i64 A.b] := by rw [← hW1]; exact Blk.new w _ _
 have x0 : W1.cell? ⟨w.heap.size, 0, none⟩ = some (.int .i64 A.what) := bx.cell 0
 have x1 : W1.cell? ⟨w.heap.size, 1, none⟩ = some (.int .i64 A.a) := bx.cell 1
 have x2 : W1.cell? ⟨w.heap.size, 2, none⟩ = some (.int .i64 A.b) := bx.cell 2
 have y0 : W1.cell? ⟨a.N, 0, none⟩ = some (.pointer (some ⟨a.g, 0, none⟩)) := (HB1.cell (p := ⟨a.N, 0, none⟩) kN).trans c0
 have kN1 : a.N < W1.heap.size := by omega
 rw [hW1]
 clear hW1
 refine wp_region_held_drew (S := fun w9 => w9.cell? ⟨w.heap.size, 0, none⟩ = some (.int .i64 A.what) ∧ w9.cell? ⟨w.heap.size, 1, none⟩ = some (.int .i64 A.a) ∧ w9.cell? ⟨w.heap.size, 2, none⟩ = some (.int .i64 A.b) ∧ w9.cell? ⟨a.N, 0, none⟩ = some (.pointer (some ⟨a.g, 0, none⟩))) kRf (⟨x0, x1, x2, y0⟩) (fun hHeld => ?_)
 refine tkH 0 (.pointer (some ⟨a.N, 0, none⟩)) (some 11) rfl hHeld ?_
 try simp only [Act.put,sI_,sZ_,sS_]
 refine tkH 1 (.pointer (some ⟨a.N, 0, none⟩)) (some 12) rfl hHeld ?_
 try simp only [Act.put,sI_,sZ_,sS_]
 refine tkH 2 (.pointer (some ⟨a.N, 0, none⟩)) (some 13) rfl hHeld ?_
 try simp only [Act.put,sI_,sZ_,sS_]
 refine tkG 3 (.pointer (some ⟨a.g, 0, none⟩)) (some 14) rfl (fun w9 hw9 => by (obtain ⟨a0, a1, a2, a3⟩ := hw9; go_simp)) hHeld ?_
 try simp only [Act.put,sI_,sZ_,sS_]
 refine tkG 4 (.agg #[.int .i64 A.what, .int .i64 A.a, .int .i64 A.b]) (some 15) rfl (fun w9 hw9 => by (obtain ⟨a0, a1, a2, a3⟩ := hw9; go_simp)) hHeld ?_
 try simp only [Act.put,sI_,sZ_,sS_]
 try simp only [Act.put,sI_,sZ_,sS_]
 refine wpAnyH_ready (rs := [5]) kRf (by simp) ?_
 refine AllReadyH.cons rfl (fun K hK => ?_) AllReadyH.nil
 go_simp
 refine (HD.out _ HB1.drew).mono ?_
 rintro e w2 ⟨P, uv', rfl, hP, hW2, hK2, hq2⟩
 have hK1 : Kept (Mine a.g uv) W1 w2 := ((Kept.refl _ W1).drew).trans hK2 (fun k e => .inl e)
 have hKw : Kept (Mine a.g uv) w w2 := ((Kept.refl _ w).below HB1).trans hK1 (fun k e => .inl e)
 have hqw : ∀ q, uv'.ownBlock = some q → uv.ownBlock = some q ∨ w.heap.size ≤ q := fun q e => (hq2 q e).imp id (fun h9 => by simp at h9; omega)
 have hbx2 : Blk w2 w.heap.size 71 #[.int .i64 A.what, .int .i64 A.a, .int .i64 A.b] := (hK1.block _ (by omega) (fun e => by rcases e with e | e; omega; have := HOwn.out _ e; omega)).trans bx
 have hy2 : w2.cell? ⟨a.N, 0, none⟩ = some (.pointer (some ⟨a.g, 0, none⟩)) := (World.cell?_of_block (hK1.block a.N kN1 (HF.out _ (.inl rfl)))).trans y0
 refine hK.out _ _ (⟨hbx2.cell 0, hbx2.cell 1, hbx2.cell 2, hy2⟩) (fun hHeld2 => ?_)
 clear hK K hHeld
 have hHeld := hHeld2
 try simp only [Act.put,sI_,sZ_,sS_]
 refine tkH 6 (.tuple #[P, errV c]) (some 10) rfl hHeld ?_
 try simp only [Act.put,sI_,sZ_,sS_]
 refine tkH 7 P (some 17) rfl hHeld ?_
 try simp only [Act.put,sI_,sZ_,sS_]
 refine tkH 8 (errV c) (some 18) rfl hHeld ?_
 try simp only [Act.put,sI_,sZ_,sS_]
 refine tkH 9 P (some 5) rfl hHeld ?_
 try simp only [Act.put,sI_,sZ_,sS_]
 refine tkH 10 (errV c) (some 6) rfl hHeld ?_
 try simp only [Act.put,sI_,sZ_,sS_]
 refine wpAnyH_done kRf ?_ _
 try simp only [Act.put,sI_,sZ_,sS_]
 obtain rfl : P = .pointer none := hP
 have hN2 := (HU.out.world hW2 hKw hqw hhas).mono (show K ≤ K + 1 by omega)
 have HN2 := Lib.hid hN2
 have HKw := Lib.hid (show Kept (NetMine a uv) w w2 from (Kept.refl _ w).trans hKw (fun k e => .inl (by rcases e with e | e; exact .inl e; exact .inr (.inl e))))
 have HQ2 := Lib.hid hqw
 clear hN2 hW2 hK2 hK1 hKw hbx2 hy2 hq2 hqw
 by_cases hc : c = 0
 ·subst hc
  go_wp2_with fail
  go_ret
  exact ⟨rfl, uv', HN2.out, HKw.out, HQ2.out⟩
 ·rw [errV_ne hc]
  go_wp2_with fail
  go_ret
  exact ⟨by rw [errV_ne hc]; rfl, uv', HN2.out, HKw.out, HQ2.out⟩
end


section
open Go.RowKit
set_option maxRecDepth 100000 in
set_option maxHeartbeats 16000000 in
theorem net_Do_asked (a : NAd) (ss rs : List Int) (p t t' : Int) (uv : Value) (us us' : List RLetter) (K : Nat) (S : Nat → NSt) (A : RAct) (L : RLetter) (d : Nat) (sv rv : Int) (b : Bool) (s' : NSt) (c : Int) (us'' : List RLetter) (w : World) (h : NetAt w a ss rs p t uv us K S) (hA : A.ok) (hK : K < 100000) (hw : WAct a.n ss rs t us A 0 (some L) t' us') (hd : L.dst = (d : Int)) (hs : ss[d]? = some sv) (hr : rs[d]? = some rv) (hh : Hears (S d) L (readV sv rv t') b 0 s') (ha : L.answer = false) (hwa : WAns a.n ss rs t' us' L c us'') :
  Calls Tryz.prog 64 #[.pointer (some ⟨a.N, 0, none⟩), .agg #[.int .i64 A.what, .int .i64 A.a, .int .i64 A.b]] w (NetDone w a ss rs p uv c t' us'' (K + 1) (updS S d s')) := by
 have HU := Lib.hid h
 have kN := h.net.lt
 have kg := h.W.at.lt
 have c0 := h.net.cell 0
 have c1 := h.net.cell 1
 simp at c0 c1
 have gB := h.W.gB
 have gN : a.N ≠ a.g := by have := h.ad.BN; omega
 have qg : a.q ≠ a.g := by have := h.ad.Bq; omega
 have kq := h.ql
 have HD := Lib.hid (fun W (hb : Below w.heap.size w W) => act_W hw hA a.g a.B uv W (h.W.below hb))
 have hown : ∀ u, uv.ownBlock = some u → u < w.heap.size := fun u e => (h.W.low u e).2
 have HOwn := Lib.hid hown
 have HF := Lib.hid (fun k (hk : k = a.N ∨ k = a.q) => show ¬ Mine a.g uv k from fun e => by
  rcases e with e | e
  ·rcases hk with hk | hk <;> omega
  ·obtain ⟨d1, d2, _⟩ := h.du k e
   rcases hk with hk | hk
   ·exact d1 hk
   ·exact d2 hk)
 have hhas := (hw.has h.W.ls h.has).1
 have hLm := (hw.has h.W.ls h.has).2 L rfl
 have hLok := h.W.lok L hLm.2.2.1
 have hdn : d < a.n := by rw [← h.W.ls]; exact (List.getElem?_eq_some_iff.1 hs).1
 clear h hw hown hLm
 have CA := Lib.hid (ans_W hwa hLok)
 have HAn := Lib.hid ha
 clear ha
 have HAs := Lib.hid (fun hu => hwa.has HU.out.W.ls hu)
 go_enter Tryz.func64, Tryz.ntmps64
 go_wp2_with fail
 obtain ⟨W1, hW1⟩ : ∃ W, w.alloc (.cells #[.int .i64 A.what, .int .i64 A.a, .int .i64 A.b] 71) = W := ⟨_, rfl⟩
 have HB1 : Below w.heap.size w W1 := by rw [← hW1]; exact BeL
 have hs1 : W1.heap.size = w.heap.size + 1 := by rw [← hW1]; simp
 have bx : Blk W1 w.heap.size 71 #[.int .i64 A.what, .int .i64 A.a, .int .i64 A.b] := by rw [← hW1]; exact Blk.new w _ _
 have x0 : W1.cell? ⟨w.heap.size, 0, none⟩ = some (.int .i64 A.what) := bx.cell 0
 have x1 : W1.cell? ⟨w.heap.size, 1, none⟩ = some (.int .i64 A.a) := bx.cell 1
 have x2 : W1.cell? ⟨w.heap.size, 2, none⟩ = some (.int .i64 A.b) := bx.cell 2
 have y0 : W1.cell? ⟨a.N, 0, none⟩ = some (.pointer (some ⟨a.g, 0, none⟩)) := (HB1.cell (p := ⟨a.N, 0, none⟩) kN).trans c0
 have kN1 : a.N < W1.heap.size := by omega
 rw [hW1]
 clear hW1
 refine wp_region_held_drew (S := fun w9 => w9.cell? ⟨w.heap.size, 0, none⟩ = some (.int .i64 A.what) ∧ w9.cell? ⟨w.heap.size, 1, none⟩ = some (.int .i64 A.a) ∧ w9.cell? ⟨w.heap.size, 2, none⟩ = some (.int .i64 A.b) ∧ w9.cell? ⟨a.N, 0, none⟩ = some (.pointer (some ⟨a.g, 0, none⟩))) kRf (⟨x0, x1, x2, y0⟩) (fun hHeld => ?_)
 refine tkH 0 (.pointer (some ⟨a.N, 0, none⟩)) (some 11) rfl hHeld ?_
 try simp only [Act.put,sI_,sZ_,sS_]
 refine tkH 1 (.pointer (some ⟨a.N, 0, none⟩)) (some 12) rfl hHeld ?_
 try simp only [Act.put,sI_,sZ_,sS_]
 refine tkH 2 (.pointer (some ⟨a.N, 0, none⟩)) (some 13) rfl hHeld ?_
 try simp only [Act.put,sI_,sZ_,sS_]
 refine tkG 3 (.pointer (some ⟨a.g, 0, none⟩)) (some 14) rfl (fun w9 hw9 => by (obtain ⟨a0, a1, a2, a3⟩ := hw9; go_simp)) hHeld ?_
 try simp only [Act.put,sI_,sZ_,sS_]
 refine tkG 4 (.agg #[.int .i64 A.what, .int .i64 A.a, .int .i64 A.b]) (some 15) rfl (fun w9 hw9 => by (obtain ⟨a0, a1, a2, a3⟩ := hw9; go_simp)) hHeld ?_
 try simp only [Act.put,sI_,sZ_,sS_]
 try simp only [Act.put,sI_,sZ_,sS_]
 refine wpAnyH_ready (rs := [5]) kRf (by simp) ?_
 refine AllReadyH.cons rfl (fun K hK => ?_) AllReadyH.nil
 go_simp
 refine (HD.out _ HB1.drew).mono ?_
 rintro e w2 ⟨P, uv', rfl, hP, hW2, hK2, hq2⟩
 have hK1 : Kept (Mine a.g uv) W1 w2 := ((Kept.refl _ W1).drew).trans hK2 (fun k e => .inl e)
 have hKw : Kept (Mine a.g uv) w w2 := ((Kept.refl _ w).below HB1).trans hK1 (fun k e => .inl e)
 have hqw : ∀ q, uv'.ownBlock = some q → uv.ownBlock = some q ∨ w.heap.size ≤ q := fun q e => (hq2 q e).imp id (fun h9 => by simp at h9; omega)
 have hbx2 : Blk w2 w.heap.size 71 #[.int .i64 A.what, .int .i64 A.a, .int .i64 A.b] := (hK1.block _ (by omega) (fun e => by rcases e with e | e; omega; have := HOwn.out _ e; omega)).trans bx
 have hy2 : w2.cell? ⟨a.N, 0, none⟩ = some (.pointer (some ⟨a.g, 0, none⟩)) := (World.cell?_of_block (hK1.block a.N kN1 (HF.out _ (.inl rfl)))).trans y0
 refine hK.out _ _ (⟨hbx2.cell 0, hbx2.cell 1, hbx2.cell 2, hy2⟩) (fun hHeld2 => ?_)
 clear hK K hHeld
 have hHeld := hHeld2
 try simp only [Act.put,sI_,sZ_,sS_]
 refine tkH 6 (.tuple #[P, errV 0]) (some 10) rfl hHeld ?_
 try simp only [Act.put,sI_,sZ_,sS_]
 refine tkH 7 P (some 17) rfl hHeld ?_
 try simp only [Act.put,sI_,sZ_,sS_]
 refine tkH 8 (errV 0) (some 18) rfl hHeld ?_
 try simp only [Act.put,sI_,sZ_,sS_]
 refine tkH 9 P (some 5) rfl hHeld ?_
 try simp only [Act.put,sI_,sZ_,sS_]
 refine tkH 10 (errV 0) (some 6) rfl hHeld ?_
 try simp only [Act.put,sI_,sZ_,sS_]
 refine wpAnyH_done kRf ?_ _
 try simp only [Act.put,sI_,sZ_,sS_]
 obtain ⟨pl, rfl, hpl, hbp, hpo⟩ := hP
 have hpl1 : w.heap.size < pl := by simp at hpl; omega
 have HBP := Lib.hid hbp
 have hW2' := Lib.hid hW2
 have HKw := Lib.hid (show Kept (NetMine a uv) w w2 from (Kept.refl _ w).trans hKw (fun k e => .inl (by rcases e with e | e; exact .inl e; exact .inr (.inl e))))
 have HPO := Lib.hid hpo
 have HQ2 := Lib.hid hqw
 have hN2 := HU.out.world hW2 hKw hqw hhas
 have HN2 := Lib.hid hN2
 have hz2 := hKw.size
 have y2 : w2.cell? ⟨a.N, 0, none⟩ = some (.pointer (some ⟨a.g, 0, none⟩)) := hy2
 have p1 : w2.cell? ⟨pl, 1, none⟩ = some (.int .i64 d) := by have := hbp.cell 1; simp [RLetter.cells] at this; rw [this, hd]
 have lp := hbp.lt
 have kN2 : a.N < w2.heap.size := by omega
 have CR := Lib.hid (fun W (hb : Below w2.heap.size w2 W) => world_Read a.g a.n ss rs t' uv' d sv rv W (hW2'.out.below hb).at hs hr)
 clear hN2 hW2 hK2 hK1 hKw hbx2 hy2 hq2 hqw hbp hpo bx x0 x1 x2 y0
 go_wp2_with fail
 have HS := Lib.hid (fun W (hb : Below w2.heap.size w2 W) => show W.cell? ⟨a.N, 0, none⟩ = some (.pointer (some ⟨a.g, 0, none⟩)) ∧ W.cell? ⟨pl, 1, none⟩ = some (.int .i64 d) from ⟨(hb.cell (p := ⟨a.N, 0, none⟩) kN2).trans y2, (hb.cell (p := ⟨pl, 1, none⟩) lp).trans p1⟩)
 refine wp_region_held_drew (S := fun w9 => w9.cell? ⟨a.N, 0, none⟩ = some (.pointer (some ⟨a.g, 0, none⟩)) ∧ w9.cell? ⟨pl, 1, none⟩ = some (.int .i64 d)) kRf (⟨y2, p1⟩) (fun hHeld => ?_)
 refine tkH 0 (.pointer (some ⟨a.N, 0, none⟩)) (some 27) rfl hHeld ?_
 try simp only [Act.put,sI_,sZ_,sS_]
 refine tkH 1 (.pointer (some ⟨a.N, 0, none⟩)) (some 28) rfl hHeld ?_
 try simp only [Act.put,sI_,sZ_,sS_]
 refine tkH 2 (.pointer (some ⟨a.N, 0, none⟩)) (some 29) rfl hHeld ?_
 try simp only [Act.put,sI_,sZ_,sS_]
 refine tkG 3 (.pointer (some ⟨a.g, 0, none⟩)) (some 30) rfl (fun w9 hw9 => by (obtain ⟨a0, a1⟩ := hw9; go_simp)) hHeld ?_
 try simp only [Act.put,sI_,sZ_,sS_]
 refine tkH 4 (.pointer (some ⟨pl, 0, none⟩)) (some 31) rfl hHeld ?_
 try simp only [Act.put,sI_,sZ_,sS_]
 refine tkH 5 (.pointer (some ⟨pl, 0, none⟩)) (some 32) rfl hHeld ?_
 try simp only [Act.put,sI_,sZ_,sS_]
 refine tkH 6 (.pointer (some ⟨pl, 1, none⟩)) (some 33) rfl hHeld ?_
 try simp only [Act.put,sI_,sZ_,sS_]
 refine tkG 7 (.int .i64 d) (some 34) rfl (fun w9 hw9 => by (obtain ⟨a0, a1⟩ := hw9; go_simp)) hHeld ?_
 try simp only [Act.put,sI_,sZ_,sS_]
 try simp only [Act.put,sI_,sZ_,sS_]
 refine wpAnyH_ready (rs := [8]) kRf (by simp) ?_
 refine AllReadyH.cons rfl (fun K hK => ?_) AllReadyH.nil
 go_simp
 refine (CR.out _ (by exact BeL)).mono ?_
 rintro e w3 ⟨rfl, hb3⟩
 have HB3 : Below w2.heap.size w2 w3 := (show Below w2.heap.size w2 w2.drew from by exact BeL).trans hb3
 refine hK.out _ _ (HS.out _ HB3) (fun hHeld2 => ?_)
 clear hK K hHeld
 have hHeld := hHeld2
 try simp only [Act.put,sI_,sZ_,sS_]
 refine tkH 9 (.tuple #[.int .i64 (readV sv rv t'), .nilIface]) (some 26) rfl hHeld ?_
 try simp only [Act.put,sI_,sZ_,sS_]
 refine tkH 10 (.int .i64 (readV sv rv t')) (some 36) rfl hHeld ?_
 try simp only [Act.put,sI_,sZ_,sS_]
 refine tkH 11 (.nilIface) (some 37) rfl hHeld ?_
 try simp only [Act.put,sI_,sZ_,sS_]
 refine tkH 12 (.int .i64 (readV sv rv t')) (some 7) rfl hHeld ?_
 try simp only [Act.put,sI_,sZ_,sS_]
 refine tkH 13 (.nilIface) (some 6) rfl hHeld ?_
 try simp only [Act.put,sI_,sZ_,sS_]
 refine wpAnyH_done kRf ?_ _
 try simp only [Act.put,sI_,sZ_,sS_]
 have HN3 := Lib.hid (HN2.out.below HB3)
 have HBP3 := Lib.hid (HBP.out.below HB3 lp)
 have hz3 := HB3.size
 have lp3 := HBP3.out.lt
 have HK3 := Lib.hid (HKw.out.below HB3)
 obtain ⟨here, hhere⟩ : ∃ v, readV sv rv t' = v := ⟨_, rfl⟩
 rw [hhere] at hh ⊢
 have CH := Lib.hid (fun W (hb : Below w3.heap.size w3 W) => by have := node_Hear (a.gi d) (a.mb d) K (S d) s' L here b 0 W ((HN3.out.below hb).nd d hdn) (by omega) hh; rw [show errV 0 = .nilIface from rfl] at this; exact this)
 have z1 : w3.cell? ⟨a.N, 1, none⟩ = some (.slice (some ⟨a.q, 0, none⟩) a.n a.c) := by have := HN3.out.net.cell 1; simpa using this
 have zr : w3.cell? ⟨a.q, d, none⟩ = some (.pointer (some ⟨a.gi d, 0, none⟩)) := HN3.out.row d hdn
 have u0 : w3.cell? ⟨pl, 0, none⟩ = some (.int .i64 L.src) := HBP3.out.cell 0
 have u1 : w3.cell? ⟨pl, 1, none⟩ = some (.int .i64 d) := by rw [← hd]; exact HBP3.out.cell 1
 have u1' : w3.cell? ⟨pl, 1, none⟩ = some (.int .i64 L.dst) := HBP3.out.cell 1
 have u2 : w3.cell? ⟨pl, 2, none⟩ = some (.bool L.answer) := HBP3.out.cell 2
 have u3 : w3.cell? ⟨pl, 3, none⟩ = some (.int .i64 L.t1) := HBP3.out.cell 3
 have u4 : w3.cell? ⟨pl, 4, none⟩ = some (.int .i64 L.t2) := HBP3.out.cell 4
 have u5 : w3.cell? ⟨pl, 5, none⟩ = some (.int .i64 L.t) := HBP3.out.cell 5
 have kq3 := HN3.out.ql
 have kN3 : a.N < w3.heap.size := HN3.out.net.lt
 have gd3 := (HN3.out.nd d hdn).blk.lt
 have md3 := (HN3.out.nd d hdn).mp.lt
 have gd := (HU.out.nd d hdn).blk.lt
 have md := (HU.out.nd d hdn).mp.lt
 have q1 : (d : Int) < (a.n : Int) := by omega
 have q2 : (0 : Int) ≤ (d : Int) := by omega
 have hnc := HN3.out.nc.1
 have hcm := HN3.out.nc.2
 unfold maxLen at hcm
 have hBg := HU.out.ad.Bg d hdn
 clear HS HB3 HN2 HBP HB1 y2 p1 CR
 go_wp2_with fail
 refine wp_region_held_drew (S := fun w9 => w9.cell? ⟨a.N, 1, none⟩ = some (.slice (some ⟨a.q, 0, none⟩) a.n a.c) ∧ w9.cell? ⟨a.q, d, none⟩ = some (.pointer (some ⟨a.gi d, 0, none⟩)) ∧ w9.cell? ⟨pl, 0, none⟩ = some (.int .i64 L.src) ∧ w9.cell? ⟨pl, 1, none⟩ = some (.int .i64 d) ∧ w9.cell? ⟨pl, 2, none⟩ = some (.bool L.answer) ∧ w9.cell? ⟨pl, 3, none⟩ = some (.int .i64 L.t1) ∧ w9.cell? ⟨pl, 4, none⟩ = some (.int .i64 L.t2) ∧ w9.cell? ⟨pl, 5, none⟩ = some (.int .i64 L.t)) kRf (⟨z1, zr, u0, u1, u2, u3, u4, u5⟩) (fun hHeld => ?_)
 refine tkH 0 (.pointer (some ⟨a.N, 0, none⟩)) (some 42) rfl hHeld ?_
 try simp only [Act.put,sI_,sZ_,sS_]
 refine tkH 1 (.pointer (some ⟨a.N, 0, none⟩)) (some 43) rfl hHeld ?_
 try simp only [Act.put,sI_,sZ_,sS_]
 refine tkH 2 (.pointer (some ⟨a.N, 1, none⟩)) (some 44) rfl hHeld ?_
 try simp only [Act.put,sI_,sZ_,sS_]
 refine tkG 3 (.slice (some ⟨a.q, 0, none⟩) a.n a.c) (some 45) rfl (fun w9 hw9 => by (obtain ⟨a0, a1, a2, a3, a4, a5, a6, a7⟩ := hw9; go_simp)) hHeld ?_
 try simp only [Act.put,sI_,sZ_,sS_]
 refine tkH 4 (.pointer (some ⟨pl, 0, none⟩)) (some 46) rfl hHeld ?_
 try simp only [Act.put,sI_,sZ_,sS_]
 refine tkH 5 (.pointer (some ⟨pl, 0, none⟩)) (some 47) rfl hHeld ?_
 try simp only [Act.put,sI_,sZ_,sS_]
 refine tkH 6 (.pointer (some ⟨pl, 1, none⟩)) (some 48) rfl hHeld ?_
 try simp only [Act.put,sI_,sZ_,sS_]
 refine tkG 7 (.int .i64 d) (some 49) rfl (fun w9 hw9 => by (obtain ⟨a0, a1, a2, a3, a4, a5, a6, a7⟩ := hw9; go_simp)) hHeld ?_
 try simp only [Act.put,sI_,sZ_,sS_]
 refine tkH 8 (.pointer (some ⟨a.q, d, none⟩)) (some 50) rfl hHeld ?_
 try simp only [Act.put,sI_,sZ_,sS_]
 refine tkG 9 (.pointer (some ⟨a.gi d, 0, none⟩)) (some 51) rfl (fun w9 hw9 => by (obtain ⟨a0, a1, a2, a3, a4, a5, a6, a7⟩ := hw9; go_simp)) hHeld ?_
 try simp only [Act.put,sI_,sZ_,sS_]
 refine tkH 10 (.pointer (some ⟨pl, 0, none⟩)) (some 52) rfl hHeld ?_
 try simp only [Act.put,sI_,sZ_,sS_]
 refine tkH 11 (.pointer (some ⟨pl, 0, none⟩)) (some 53) rfl hHeld ?_
 try simp only [Act.put,sI_,sZ_,sS_]
 refine tkG 12 (.agg #[.int .i64 L.src, .int .i64 d, .bool L.answer, .int .i64 L.t1, .int .i64 L.t2, .int .i64 L.t]) (some 54) rfl (fun w9 hw9 => by (obtain ⟨a0, a1, a2, a3, a4, a5, a6, a7⟩ := hw9; go_simp)) hHeld ?_
 try simp only [Act.put,sI_,sZ_,sS_]
 refine tkH 13 (.int .i64 here) (some 55) rfl hHeld ?_
 try simp only [Act.put,sI_,sZ_,sS_]
 try simp only [Act.put,sI_,sZ_,sS_]
 refine wpAnyH_ready (rs := [14]) kRf (by simp) ?_
 refine AllReadyH.cons rfl (fun K hK => ?_) AllReadyH.nil
 go_simp
 rw [← hd]
 refine (CH.out _ (by exact BeL)).mono ?_
 rintro e w4 ⟨rfl, hN4, hK4⟩
 have hK5 : Kept (NMine (a.gi d) (a.mb d)) w3 w4 := ((Kept.refl _ w3).drew).trans hK4 (fun k e => .inl e)
 have hbp4 : Blk w4 pl 110 (RLetter.cells L).toArray := (hK5.block pl lp3 (fun e => by rcases e with e | e <;> omega)).trans HBP3.out
 have hN5 := HN3.out.hear hdn hN4 (by omega) hK5 ⟨hh.keeps.1.trans (HU.out.sN d hdn).1, hh.keeps.2.1.trans (HU.out.sN d hdn).2.1, hh.keeps.2.2.trans (HU.out.sN d hdn).2.2⟩
 have v1 : w4.cell? ⟨pl, 1, none⟩ = some (.int .i64 d) := by rw [← hd]; exact hbp4.cell 1
 have v2 : w4.cell? ⟨a.N, 1, none⟩ = some (.slice (some ⟨a.q, 0, none⟩) a.n a.c) := by have := hN5.net.cell 1; simpa using this
 refine hK.out _ _ (⟨v2, hN5.row d hdn, hbp4.cell 0, v1, hbp4.cell 2, hbp4.cell 3, hbp4.cell 4, hbp4.cell 5⟩) (fun hHeld2 => ?_)
 clear hK K hHeld
 have hHeld := hHeld2
 try simp only [Act.put,sI_,sZ_,sS_]
 refine tkH 15 (.tuple #[.bool b, .nilIface]) (some 41) rfl hHeld ?_
 try simp only [Act.put,sI_,sZ_,sS_]
 refine tkH 16 (.bool b) (some 57) rfl hHeld ?_
 try simp only [Act.put,sI_,sZ_,sS_]
 refine tkH 17 (.nilIface) (some 58) rfl hHeld ?_
 try simp only [Act.put,sI_,sZ_,sS_]
 refine tkH 18 (.bool b) (some 8) rfl hHeld ?_
 try simp only [Act.put,sI_,sZ_,sS_]
 refine tkH 19 (.nilIface) (some 9) rfl hHeld ?_
 try simp only [Act.put,sI_,sZ_,sS_]
 refine wpAnyH_done kRf ?_ _
 try simp only [Act.put,sI_,sZ_,sS_]
 have HN5 := Lib.hid hN5
 have HBP4 := Lib.hid hbp4
 have HK5 := Lib.hid (HK3.out.trans hK5 (P' := NMine (a.gi d) (a.mb d)) (P := NetMine a uv) (fun k e => .inl (.inr (.inr ⟨d, hdn, e⟩))))
 have hz5 := hK5.size
 clear hN5 hbp4 hK5 hN4 hK4 v1 v2 z1 zr u0 u1 u1' u2 u3 u4 u5 CH HN3 HBP3 HK3
 have v2 : w4.cell? ⟨pl, 2, none⟩ = some (.bool false) := by rw [← HAn.out]; exact HBP4.out.cell 2
 clear hHeld hHeld2
 go_wp2_with fail
 clear v2
 have CA4 := Lib.hid (fun W (hb : Below w4.heap.size w4 W) => CA.out a.g a.B uv' W (HN5.out.below hb).W)
 have z0 : w4.cell? ⟨a.N, 0, none⟩ = some (.pointer (some ⟨a.g, 0, none⟩)) := by have := HN5.out.net.cell 0; simpa using this
 have v0 : w4.cell? ⟨pl, 0, none⟩ = some (.int .i64 L.src) := HBP4.out.cell 0
 have v1 : w4.cell? ⟨pl, 1, none⟩ = some (.int .i64 L.dst) := HBP4.out.cell 1
 have v2 : w4.cell? ⟨pl, 2, none⟩ = some (.bool L.answer) := HBP4.out.cell 2
 have v3 : w4.cell? ⟨pl, 3, none⟩ = some (.int .i64 L.t1) := HBP4.out.cell 3
 have v4 : w4.cell? ⟨pl, 4, none⟩ = some (.int .i64 L.t2) := HBP4.out.cell 4
 have v5 : w4.cell? ⟨pl, 5, none⟩ = some (.int .i64 L.t) := HBP4.out.cell 5
 have kN4 := HN5.out.net.lt
 have lp4 := HBP4.out.lt
 refine wp_region_held_drew (S := fun w9 => w9.cell? ⟨a.N, 0, none⟩ = some (.pointer (some ⟨a.g, 0, none⟩)) ∧ w9.cell? ⟨pl, 0, none⟩ = some (.int .i64 L.src) ∧ w9.cell? ⟨pl, 1, none⟩ = some (.int .i64 L.dst) ∧ w9.cell? ⟨pl, 2, none⟩ = some (.bool L.answer) ∧ w9.cell? ⟨pl, 3, none⟩ = some (.int .i64 L.t1) ∧ w9.cell? ⟨pl, 4, none⟩ = some (.int .i64 L.t2) ∧ w9.cell? ⟨pl, 5, none⟩ = some (.int .i64 L.t)) kRf (⟨z0, v0, v1, v2, v3, v4, v5⟩) (fun hHeld => ?_)
 refine tkH 0 (.pointer (some ⟨a.N, 0, none⟩)) (some 66) rfl hHeld ?_
 try simp only [Act.put,sI_,sZ_,sS_]
 refine tkH 1 (.pointer (some ⟨a.N, 0, none⟩)) (some 67) rfl hHeld ?_
 try simp only [Act.put,sI_,sZ_,sS_]
 refine tkH 2 (.pointer (some ⟨a.N, 0, none⟩)) (some 68) rfl hHeld ?_
 try simp only [Act.put,sI_,sZ_,sS_]
 refine tkG 3 (.pointer (some ⟨a.g, 0, none⟩)) (some 69) rfl (fun w9 hw9 => by (obtain ⟨a0, a1, a2, a3, a4, a5, a6⟩ := hw9; go_simp)) hHeld ?_
 try simp only [Act.put,sI_,sZ_,sS_]
 refine tkH 4 (.pointer (some ⟨pl, 0, none⟩)) (some 70) rfl hHeld ?_
 try simp only [Act.put,sI_,sZ_,sS_]
 refine tkH 5 (.pointer (some ⟨pl, 0, none⟩)) (some 71) rfl hHeld ?_
 try simp only [Act.put,sI_,sZ_,sS_]
 refine tkG 6 (.agg #[.int .i64 L.src, .int .i64 L.dst, .bool L.answer, .int .i64 L.t1, .int .i64 L.t2, .int .i64 L.t]) (some 72) rfl (fun w9 hw9 => by (obtain ⟨a0, a1, a2, a3, a4, a5, a6⟩ := hw9; go_simp)) hHeld ?_
 try simp only [Act.put,sI_,sZ_,sS_]
 try simp only [Act.put,sI_,sZ_,sS_]
 refine wpAnyH_ready (rs := [7]) kRf (by simp) ?_
 refine AllReadyH.cons rfl (fun K hK => ?_) AllReadyH.nil
 go_simp
 rw [← hd]
 refine (CA4.out _ (by exact BeL)).mono ?_
 rintro e w6 ⟨rfl, uv6, hW6, hK6, hq6⟩
 have hK7 : Kept (Mine a.g uv') w4 w6 := ((Kept.refl _ w4).drew).trans hK6 (fun k e => .inl e)
 have hN6 := HN5.out.world hW6 hK7 hq6 (HAs.out HN5.out.has)
 have hbp6 : Blk w6 pl 110 (RLetter.cells L).toArray := (hK7.block pl lp4 (fun e => by rcases e with e | e; omega; exact HPO.out e)).trans HBP4.out
 have z6 : w6.cell? ⟨a.N, 0, none⟩ = some (.pointer (some ⟨a.g, 0, none⟩)) := by have := hN6.net.cell 0; simpa using this
 refine hK.out _ _ (⟨z6, hbp6.cell 0, hbp6.cell 1, hbp6.cell 2, hbp6.cell 3, hbp6.cell 4, hbp6.cell 5⟩) (fun hHeld2 => ?_)
 clear hK K hHeld
 have hHeld := hHeld2
 try simp only [Act.put,sI_,sZ_,sS_]
 refine tkH 8 (errV c) (some 4) rfl hHeld ?_
 try simp only [Act.put,sI_,sZ_,sS_]
 refine wpAnyH_done kRf ?_ _
 try simp only [Act.put,sI_,sZ_,sS_]
 have HN6 := Lib.hid hN6
 have HK6 := Lib.hid (HK5.out.trans hK7 (fun k e => by
  rcases e with e | e
  ·exact .inl (.inl e)
  ·rcases HQ2.out k e with h1 | h1
   ·exact .inl (.inr (.inl h1))
   ·exact .inr h1))
 have HQ6 := Lib.hid (show ∀ q, uv6.ownBlock = some q → uv.ownBlock = some q ∨ w.heap.size ≤ q from fun q e => by
  rcases hq6 q e with h1 | h1
  ·rcases HQ2.out q h1 with h2 | h2
   ·exact .inl h2
   ·exact .inr h2
  ·right; simp at h1; omega)
 clear hN6 hK6 hK7 hW6 hq6 hbp6 z6
 go_wp2_with fail
 go_ret
 exact ⟨rfl, uv6, HN6.out, HK6.out, HQ6.out⟩
end


section
open Go.RowKit
set_option maxRecDepth 100000 in
set_option maxHeartbeats 8000000 in
theorem net_Wide (a : NAd) (ss rs : List Int) (p t : Int) (uv : Value) (us : List RLetter) (K : Nat) (S : Nat → NSt) (w : World) (h : NetAt w a ss rs p t uv us K S) :
  Calls Tryz.prog 66 #[.pointer (some ⟨a.N, 0, none⟩)] w fun e w' => ∃ v c : Int, e = .returned (.tuple #[.int .i64 v, errV c]) ∧ WideA a.n (hereAt ss rs t) S v c ∧ Below w.heap.size w w' := by
 by_cases hc : netC (hereAt ss rs t) S a.n = 0
 ·refine (net_Wide_ok a ss rs p t uv us K S w h hc (netL_edgesC h.W.n1 h.W.n6 (fun i hi => ⟨(h.sN i hi).1, (h.sN i hi).2.1⟩) hc)).mono ?_
  rintro e w' ⟨v, c, rfl, hS, hb⟩
  exact ⟨v, c, rfl, .inr ⟨hc, hS⟩, hb⟩
 ·have CE := Lib.hid (net_Edges a ss rs p t uv us K S w h)
  have HO := Lib.hid (show WideA a.n (hereAt ss rs t) S 0 (netC (hereAt ss rs t) S a.n) from .inl ⟨hc, rfl, rfl⟩)
  obtain ⟨cc, hcc⟩ : ∃ cc, netC (hereAt ss rs t) S a.n = cc := ⟨_, rfl⟩
  rw [hcc] at hc CE HO
  clear h hcc
  have hr := Lib.hid (errV_ne hc)

  go_enter Tryz.func66, Tryz.ntmps66
  go_wp2_with fail
  refine CE.out.mono ?_
  rintro e w1 ⟨A, n, c, rfl, hI, hb1⟩
  have HB1 := Lib.hid hb1
  clear hI hb1 CE
  rw [hr.out]
  go_wp2_with fail
  refine bodyPost_ret (v := .tuple #[.int .i64 0, .iface 88 (.int .i64 cc)]) (by simp [results, Tryz.results66, go_sem]) rfl ?_
  exact ⟨0, cc, by rw [hr.out], HO.out, HB1.out⟩
end


section
open Go.RowKit
theorem infoPN : (Tryz.prog.info? 97).map (fun i => (i.zero, i.size, i.bytes)) = some (some (.pointer none), 1, 8) := by kernel_rfl
structure Making (w : World) (N n i : Nat) (p : Int) (g : Nat) (v : Value) (gi mb : Nat → Nat) : Prop where
 net : Blk w N 96 #[.pointer (some ⟨g, 0, none⟩), v]
 row : w.ownsRow (N + 1) 97 1 v i ((List.range i).map fun j => .pointer (some ⟨gi j, 0, none⟩))
 nd : ∀ j, j < i → NodeAt w (gi j) (mb j) 0 (NSt.start n j p) ∧ N < gi j ∧ N < mb j
 du : ∀ u, v.ownBlock = some u → ∀ j, j < i → u ≠ gi j ∧ u ≠ mb j
 dd : ∀ j k, j < i → k < i → j ≠ k → gi j ≠ gi k ∧ gi j ≠ mb k ∧ mb j ≠ mb k
theorem map_congr_range {f g : Nat → Value} {i : Nat} (h : ∀ j, j < i → f j = g j) : (List.range i).map f = (List.range i).map g :=
 List.map_congr_left fun j hj => h j (List.mem_range.1 hj)
theorem Making.step {w w2 w5 : World} {N n i gg cap ng nm : Nat} {p : Int} {g : Nat} {v : Value} {gi mb : Nat → Nat} (h : Making w N n i p g v gi mb) (hb : Below w.heap.size w w2) (hn : NodeAt w2 ng nm 0 (NSt.start n i p)) (h1 : w.heap.size ≤ ng) (h2 : w.heap.size ≤ nm)
  (hg5 : (w2.alloc (.cells #[.pointer (some ⟨ng, 0, none⟩)] 97)).grownBy w5 v.ownBlock) (hgg : v.ownBlock = some gg ∨ gg = (w2.alloc (.cells #[.pointer (some ⟨ng, 0, none⟩)] 97)).heap.size)
  (ho5 : w5.ownsRow (N + 1) 97 1 (.slice (some ⟨gg, 0, none⟩) (i + 1) cap) (i + 1) (((List.range i).map fun j => .pointer (some ⟨gi j, 0, none⟩)) ++ [.pointer (some ⟨ng, 0, none⟩)])) :
  Making (w5.setCell ⟨N, 1, none⟩ (.slice (some ⟨gg, 0, none⟩) (i + 1) cap)) N n (i + 1) p g (.slice (some ⟨gg, 0, none⟩) (i + 1) cap) (fun j => if j = i then ng else gi j) (fun j => if j = i then nm else mb j) := by
 have hNl := h.net.lt
 have hs2 := hb.size
 have hlt : ∀ u, v.ownBlock = some u → N + 1 ≤ u ∧ u < w.heap.size := h.row.lt
 have hNu : some N ≠ v.ownBlock := fun e => by have := (hlt N e.symm).1; omega
 have hgs : gg = w2.heap.size + 1 ∨ v.ownBlock = some gg := by
  rcases hgg with e | e
  ·exact .inr e
  ·left; simpa using e
 have hngl := hn.blk.lt
 have hnml := hn.mp.lt
 have keep : ∀ k, k < w2.heap.size → some k ≠ v.ownBlock → w5.heap[k]? = w2.heap[k]? := fun k hk hne => (hg5.block k (by simp; omega) hne).trans (Below.heap_alloc w2 _ k hk)
 have hng : some ng ≠ v.ownBlock := fun e => by have := (hlt ng e.symm).2; omega
 have hnm : some nm ≠ v.ownBlock := fun e => by have := (hlt nm e.symm).2; omega
 refine ⟨?_, ?_, fun j hj => ?_, fun u e j hj => ?_, fun j k hj hk hne => ?_⟩
 ·have hN5 : Blk w5 N 96 #[.pointer (some ⟨g, 0, none⟩), v] := (keep N (by omega) hNu).trans (h.net.below hb hNl)
  exact (hN5.set 1 _).conv rfl
 ·have e : ((List.range (i + 1)).map fun j => Value.pointer (some ⟨if j = i then ng else gi j, 0, none⟩)) = ((List.range i).map fun j => .pointer (some ⟨gi j, 0, none⟩)) ++ [.pointer (some ⟨ng, 0, none⟩)] := by
   rw [List.range_succ, List.map_append]
   congr 1
   ·exact map_congr_range fun j hj => by rw [if_neg (by omega)]
   ·simp
  rw [e]
  exact own_touched ho5 ((Touched.refl N w5).set 1 _) (by omega)
 ·by_cases c : j = i
  ·subst c
   simp only [if_pos]
   refine ⟨⟨?_, ?_, hn.ne, hn.ok⟩, by omega, by omega⟩
   ·exact Blk.far (g := ng) ((keep ng hngl hng).trans hn.blk) (p := ⟨N, 1, none⟩) (by show ng ≠ N; omega) _
   ·exact (hn.mp.block (keep nm hnml hnm)).far (by show nm ≠ N; omega) _
  ·simp only [if_neg c]
   obtain ⟨hj1, hj2, hj3⟩ := h.nd j (by omega)
   have hg := hj1.blk.lt
   have hm := hj1.mp.lt
   have d := fun (u : Nat) (e : v.ownBlock = some u) => h.du u e j (by omega)
   have hj4 := hj1.below hb
   refine ⟨⟨?_, ?_, hj1.ne, hj1.ok⟩, hj2, hj3⟩
   ·exact Blk.far (g := gi j) ((keep _ (by omega) (fun e => (d _ e.symm).1 rfl)).trans hj4.blk) (p := ⟨N, 1, none⟩) (by show gi j ≠ N; omega) _
   ·exact (hj4.mp.block (keep _ (by omega) (fun e => (d _ e.symm).2 rfl))).far (by show mb j ≠ N; omega) _
 ·have eu : gg = u := by simpa [Value.ownBlock] using e
  subst eu
  by_cases c : j = i
  ·subst c
   simp only [if_pos]
   rcases hgs with e | e
   ·omega
   ·have := (hlt gg e).2; omega
  ·simp only [if_neg c]
   obtain ⟨hj1, _, _⟩ := h.nd j (by omega)
   have hg := hj1.blk.lt
   have hm := hj1.mp.lt
   rcases hgs with e | e
   ·omega
   ·exact h.du _ e j (by omega)
 ·by_cases c : j = i
  ·subst c
   obtain ⟨hk1, _, _⟩ := h.nd k (by omega)
   have hg := hk1.blk.lt
   have hm := hk1.mp.lt
   simp only [if_pos, if_neg (fun e => hne (Eq.symm e) : ¬ k = j)]
   omega
  ·by_cases c2 : k = i
   ·subst c2
    obtain ⟨hk1, _, _⟩ := h.nd j (by omega)
    have hg := hk1.blk.lt
    have hm := hk1.mp.lt
    simp only [if_pos, if_neg c]
    omega
   ·simp only [if_neg c, if_neg c2]
    exact h.dd j k (by omega) (by omega) hne
theorem Making.done {w w1 : World} {N n : Nat} {p : Int} {g B : Nat} {v : Value} {gi mb : Nat → Nat} {ss rs : List Int} (h : Making w N n n p g v gi mb) (hw : WorldU w1 g B n ss rs 0 (.slice none 0 0) []) (hN : w1.heap.size = N) (hb : Below w1.heap.size w1 w) (h1 : 1 ≤ n) : ∃ a : NAd, a.N = N ∧ a.g = g ∧ a.n = n ∧ NetAt w a ss rs p 0 (.slice none 0 0) [] 0 (fun i => NSt.start n i p) := by
 have hlow : ∀ u, v.ownBlock = some u → N + 1 ≤ u ∧ u < w.heap.size := h.row.lt
 have hc := fun {q : Nat} (hq : v.ownBlock = some q) => h.row.cells hq
 rcases h.row.2 with ⟨rfl, hn⟩ | ⟨q, cap, cur, rfl, hB, hg, hnc, hcm, hs, ht⟩
 ·omega
 ·have hBw := hw.Bw
  have hq := hlow q rfl
  refine ⟨⟨N, g, B, q, n, cap, gi, mb⟩, rfl, rfl, rfl, h.net, hw.below hb, fun i hi => ?_, hq.2, ⟨hnc, hcm⟩, fun i hi => (h.nd i hi).1, fun i hi => ⟨rfl, rfl, rfl⟩, ⟨by show B ≤ N; omega, by show B ≤ q; omega, by show q ≠ N; omega, fun i hi => ?_, fun i j hi hj hne => h.dd i j hi hj hne⟩, fun u e => by simp [Value.ownBlock] at e, by simp⟩
  ·have hx := hc (q := q) rfl i (.pointer (some ⟨gi i, 0, none⟩)) (by rw [List.getElem?_map, List.getElem?_range hi]; rfl)
   rw [show (⟨q, 0, none⟩ : Addr).add i = ⟨q, i, none⟩ by unfold Addr.add; split <;> simp_all] at hx
   exact hx
  ·obtain ⟨_, h2, h3⟩ := h.nd i hi
   have := h.du q rfl i hi
   exact ⟨by show B ≤ gi i; omega, by show B ≤ mb i; omega, by show gi i ≠ N; omega, by show mb i ≠ N; omega, this.1.symm, this.2.symm⟩
set_option maxRecDepth 100000 in
set_option maxHeartbeats 8000000 in
theorem net_New (A : Option Addr) (n c : Nat) (zs : List Int) (A2 : Option Addr) (n2 c2 : Nat) (ys : List Int) (p : Int) (w : World) (h : IsInts w A n c zs) (h2 : IsInts w A2 n2 c2 ys) (hc : newC zs ys p = 0) :
  Calls Tryz.prog 14 #[.slice A n c, .slice A2 n2 c2, .int .i64 p] w fun e w' => ∃ a : NAd, e = .returned (.tuple #[.pointer (some ⟨a.N, 0, none⟩), .nilIface]) ∧ a.n = n ∧ w.heap.size ≤ a.g ∧ NetAt w' a zs ys p 0 (.slice none 0 0) [] 0 (fun i => NSt.start n i p) ∧ Below w.heap.size w w' := by
 obtain ⟨i0, hi, hz0, hz1, hz2⟩ := info_parts infoPN
 obtain ⟨r1, r2, r3, r4, r5⟩ := newC_0 hc
 obtain ⟨p0, p1⟩ := rateB_iff.1 r1
 have hn1 : 1 ≤ n := by rw [← h.1]; exact r2
 have hn6 : n ≤ 6 := by rw [← h.1]; exact r3
 have CW := Lib.hid (world_New_u A n c zs A2 n2 c2 ys p w h h2 hc)
 clear h h2 hc r1 r2 r3 r4 r5
 go_enter Tryz.func14, Tryz.ntmps14
 go_wp2_with fail
 refine CW.out.mono ?_
 rintro e w1 ⟨g, B, rfl, hgw, hw1, hb1⟩
 have HW1 := Lib.hid hw1
 have HB1 := Lib.hid hb1
 have hz1' := hb1.size
 clear hw1 hb1 CW
 go_wp2_with fail
 obtain ⟨N, hN⟩ : ∃ N, w1.heap.size = N := ⟨_, rfl⟩
 obtain ⟨w2, hw2⟩ : ∃ W, (w1.alloc (.cells #[.pointer (some ⟨g, 0, none⟩), .slice none 0 0] 96)) = W := ⟨_, rfl⟩
 have hM : Making w2 N n 0 p g (.slice none 0 0) (fun _ => 0) (fun _ => 0) := ⟨by rw [← hw2, ← hN]; exact Blk.new w1 _ _, own_nil _ _ _ _, fun j hj => absurd hj (by omega), fun u e j hj => absurd hj (by omega), fun j k hj => absurd hj (by omega)⟩
 have hB2 : Below w1.heap.size w1 w2 := by rw [← hw2]; exact (Below.refl _ _).alloc (Nat.le_refl _) _
 have HM := Lib.hid hM
 have HB2 := Lib.hid hB2
 rw [hw2, hN]
 have HNe := Lib.hid hN
 clear hM hB2 hw2
 go_loopw [29] (fun iv wr => ∃ (i : Nat) (v : Value) (gi mb : Nat → Nat), iv = .int .i64 i ∧ i ≤ n ∧ Making wr N n i p g v gi mb ∧ Below w1.heap.size w1 wr) (fun iv _ => n - (intOf iv).toNat)
 case atStart => exact ⟨0, _, _, _, rfl, by omega, HM.out, HB2.out⟩
 case round =>
  obtain ⟨i, v, gi, mb, rfl, hi', hM, hB⟩ := hrel
  have HMi := Lib.hid hM
  have HBi := Lib.hid hB
  have hzr := hB.size
  have hNl := hM.net.lt
  by_cases d1 : i < n
  ·have g1 : (i : Int) < (n : Int) := by omega
   have CN := Lib.hid (fun W => node_New n i p W hn1 hn6 d1 p0 p1)
   obtain ⟨AO, cO, rfl, hAc, hcm⟩ := own_slice hM.row
   unfold maxLen at hcm
   clear hM hB
   go_wp2_with fail
   refine (CN.out wr).mono ?_
   rintro e w3 ⟨ng, nm, rfl, k1, k2, hn3, hb3⟩
   have hNb : Blk w3 N 96 #[.pointer (some ⟨g, 0, none⟩), .slice AO i cO] := HMi.out.net.below hb3 hNl
   have y1 : w3.cell? ⟨N, 1, none⟩ = some (.slice AO i cO) := hNb.cell 1
   have yf : w3.frozen? ⟨N, 1, none⟩ = false := hNb.fz 1
   have hz3 := hb3.size
   have hN3 : N < w3.heap.size := hNb.lt
   have HN3 := Lib.hid hn3
   have HB3 := Lib.hid hb3
   have HO := Lib.hid (own_below HMi.out.row hb3)
   have hlow : ∀ u, (Value.slice AO i cO).ownBlock = some u → N + 1 ≤ u := fun u e => (HMi.out.row.lt u e).1
   have HLow := Lib.hid hlow
   clear hn3 hb3 CN hNb hlow
   go_wp2_with (at_builtin; refine wpList_append_lies _ rfl _ _ 94 rfl (N + 1) 97 i0 (.pointer none) 1 8 Tryz.underlying94 hi hz0 hz1 hz2 rfl (by decide) (.slice AO i cO) i ((List.range i).map fun j => .pointer (some ⟨gi j, 0, none⟩)) rfl ((HO.out).alloc _) ⟨w3.heap.size, 0, none⟩ 1 1 [.pointer (some ⟨ng, 0, none⟩)] rfl rfl (by exact cell_newAt w3 [.pointer (some ⟨ng, 0, none⟩)] _ _ rfl) (by intro u hu; rw [List.mem_singleton] at hu; subst hu; rfl) (by decide) (by unfold maxLen; omega) (by omega) (by simp; omega) _ rfl ?_; intro gg cap w5 ho5 hg5 hgg hlt5; have hNne : some N ≠ (Value.slice AO i cO).ownBlock := (fun e => by have := HLow.out _ e.symm; omega); have y5 : w5.cell? ⟨N, 1, none⟩ = some (.slice AO i cO) := hg5.cell ((World.cell?_alloc_lt _ _ ⟨N, 1, none⟩ hN3).trans y1) hNne; have yf5 : w5.frozen? ⟨N, 1, none⟩ = false := (World.frozen?_of_block (hg5.block N (by simp; omega) hNne)).trans ((World.frozen?_of_block (Below.heap_alloc w3 _ N hN3)).trans yf))
   have HMs := Lib.hid (HMi.out.step HB3.out HN3.out k1 k2 hg5 hgg ho5)
   have HB6 := Lib.hid (show Below w1.heap.size w1 (w5.setCell ⟨N, 1, none⟩ (.slice (some ⟨gg, 0, none⟩) (i + 1) cap)) from
    (((HBi.out.trans (HB3.out.mono hzr)).alloc (by omega) _).grown hg5 (by simp; omega) (fun k hk => by have := HLow.out k hk; have := HNe.out; omega)).setCell (by show w1.heap.size ≤ N; have := HNe.out; omega) _)
   clear ho5 hg5 hgg y5 yf5 y1 yf HO
   go_roundw
   case rel => exact ⟨i + 1, _, _, _, by go_num, by omega, HMs.out, HB6.out⟩
   case measure => go_light; simp [intOf]; omega
  ·obtain rfl : i = n := by omega
   obtain ⟨a, e1, e2, e3, hA⟩ := hM.done HW1.out HNe.out hB hn1
   have HA := Lib.hid hA
   have HB9 := Lib.hid (HB1.out.trans (hB.mono hz1'))
   have E1 := Lib.hid e1
   have E2 := Lib.hid e2
   clear hM hB hA e1 e2
   go_wp2_with fail
   go_ret2
   exact ⟨a, by rw [E1.out]; rfl, e3, by rw [E2.out]; exact hgw, HA.out, HB9.out⟩
end


section
open Go.RowKit
structure FixB (a : NAd) (C : Nat) : Prop where
 N : a.N < C
 q : a.q < C
 B : a.B ≤ C
 g : a.g < C
 n : ∀ i, i < a.n → a.gi i < C ∧ a.mb i < C
variable {w w' : World} {a : NAd} {ss rs : List Int} {p t t' : Int} {uv uv' : Value} {us us' : List RLetter} {K K' : Nat} {S : Nat → NSt}
theorem NetAt.fix (h : NetAt w a ss rs p t uv us K S) : FixB a w.heap.size :=
 ⟨h.net.lt, h.ql, h.W.Bw, Nat.lt_of_lt_of_le h.W.gB h.W.Bw, fun i hi => ⟨(h.nd i hi).blk.lt, (h.nd i hi).mp.lt⟩⟩
theorem NetAt.kept {P : Nat → Prop} {C : Nat} (h : NetAt w a ss rs p t uv us K S) (hK : Kept P w w') (f : FixB a C) (hP : ∀ q, P q → C ≤ q ∧ uv.ownBlock ≠ some q) : NetAt w' a ss rs p t uv us K S := by
 have hn : ∀ q, q < C → ¬ P q := fun q hq e => by have := (hP q e).1; omega
 exact ⟨(hK.block a.N h.net.lt (hn _ f.N)).trans h.net, h.W.other hK (fun k e => ⟨by have := (hP k e).1; have := f.B; omega, (hP k e).2⟩), fun i hi => (World.cell?_of_block (hK.block a.q h.ql (hn _ f.q))).trans (h.row i hi), Nat.lt_of_lt_of_le h.ql hK.size, h.nc, fun i hi => (h.nd i hi).other hK (hn _ (f.n i hi).1) (hn _ (f.n i hi).2), h.sN, h.ad, h.du, h.has⟩
end
end Go.Proofs.YtldlandcjegikaaGreatDoor
