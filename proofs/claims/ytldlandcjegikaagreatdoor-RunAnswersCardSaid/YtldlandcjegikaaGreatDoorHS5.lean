/- Texts that serve many laws, one behind the other. -/
import Derived.Deep.AppendLies
import Derived.Deep.Light
import Derived.Test.YtldlandcjegikaaGreatDoorHK2
import Derived.Test.YtldlandcjegikaaGreatDoorHMat2
import Derived.Test.YtldlandcjegikaaGreatDoorHRNodeH
set_option linter.unusedVariables false
set_option linter.unusedSimpArgs false
namespace Go.Proofs.YtldlandcjegikaaGreatDoor

section
open Go.RowKit
theorem r2_Hear (M : Nat) (s s' : NSt) (L : RLetter) (here : Int) (b : Bool) (c : Int) (w : World) (h : RNodeAt w M s) (hr : Hears s L here b c s') :
  Calls Tryz.prog 42 #[.pointer (some ⟨M, 0, none⟩), .agg #[.int .i64 L.src, .int .i64 L.dst, .bool L.answer, .int .i64 L.t1, .int .i64 L.t2, .int .i64 L.t], .int .i64 here] w fun e w' =>
   e = .returned (.tuple #[.bool b, .int .i64 c]) ∧ RNodeAt w' M s' ∧ Kept (fun k => k = M) w w' := by
 have hbel : ∀ {w' : World}, Below w.heap.size w w' → RNodeAt w' M s ∧ Kept (fun k => k = M) w w' := fun hb => ⟨h.below hb, (Kept.refl _ w).below hb⟩
 cases hr with
 | back hb => exact (rhear_back M s L here w h hb).mono (by rintro e w' ⟨rfl, h1⟩; exact ⟨rfl, hbel h1⟩)
 | shape hb h1 => exact (rhear_shape M s L here w h hb h1).mono (by rintro e w' ⟨rfl, h1⟩; exact ⟨rfl, hbel h1⟩)
 | ask hb h1 h2 h3 h4 h5 => exact (rhear_ask M s L here w h hb h1 h2 h3 h4 h5).mono (by rintro e w' ⟨rfl, h1⟩; exact ⟨rfl, h1⟩)
 | bad hb h1 h2 h3 h4 h5 h6 => exact (rhear_bad M s L here w h hb h1 h2 h3 h4 h5 h6).mono (by rintro e w' ⟨rfl, h1⟩; exact ⟨rfl, hbel h1⟩)
 | first hb h1 h2 h3 h4 h5 h6 h7 => exact (rhear_first M s L here w h hb h1 h2 h3 h4 h5 h6 h7).mono (by rintro e w' ⟨rfl, h1⟩; exact ⟨rfl, h1⟩)
 | clash k hb h1 h2 h3 h4 h5 h6 h7 h8 => exact (rhear_clash M s L here w h k hb h1 h2 h3 h4 h5 h6 h7 h8).mono (by rintro e w' ⟨rfl, h1⟩; exact ⟨rfl, hbel h1⟩)
 | more k hb h1 h2 h3 h4 h5 h6 h7 h8 => exact (rhear_more M s L here w h k hb h1 h2 h3 h4 h5 h6 h7 h8).mono (by rintro e w' ⟨rfl, h1⟩; exact ⟨rfl, h1⟩)
end


section
open Go.RowKit
def partC (s : NSt) (i : Nat) : List Bool := (List.range s.N).map fun j => if j < i then hasAt s j else decide (j = s.id)
theorem partC_len (s : NSt) (i : Nat) : (partC s i).length = s.N := by simp [partC]
theorem partC_get {s : NSt} {i j : Nat} (hj : j < s.N) : (partC s i)[j]? = some (if j < i then hasAt s j else decide (j = s.id)) := by
 unfold partC; rw [List.getElem?_map, List.getElem?_range hj]; rfl
theorem partC_0 {s : NSt} (h : s.id < s.N) : (List.replicate s.N false).set s.id true = partC s 0 := by
 apply List.ext_getElem?
 intro j
 by_cases hj : j < s.N
 ·rw [List.getElem?_set, partC_get hj]
  by_cases c : s.id = j
  ·subst c; rw [if_pos rfl, List.length_replicate, if_pos h, if_neg (by omega)]; simp
  ·rw [if_neg c, List.getElem?_replicate, if_pos hj, if_neg (by omega), decide_eq_false (fun e => c e.symm)]
 ·rw [List.getElem?_eq_none (by rw [List.length_set, List.length_replicate]; omega), List.getElem?_eq_none (by rw [partC_len]; omega)]
theorem partC_set {s : NSt} {i : Nat} (hi : i < s.N) : (partC s i).set i (hasAt s i) = partC s (i + 1) := by
 apply List.ext_getElem?
 intro j
 by_cases hj : j < s.N
 ·rw [List.getElem?_set, partC_get hj, partC_get hj, partC_len]
  by_cases c : i = j
  ·subst c; rw [if_pos rfl, if_pos hi, if_pos (by omega)]
  ·rw [if_neg c]
   by_cases c2 : j < i
   ·rw [if_pos c2, if_pos (by omega)]
   ·rw [if_neg c2, if_neg (by omega)]
 ·rw [List.getElem?_eq_none (by rw [List.length_set, partC_len]; omega), List.getElem?_eq_none (by rw [partC_len]; omega)]
theorem partC_skip {s : NSt} {i : Nat} (hf : s.f i = none) : partC s (i + 1) = partC s i := by
 unfold partC
 apply List.map_congr_left
 intro j _
 by_cases c : j < i
 ·rw [if_pos c, if_pos (by omega)]
 ·rw [if_neg c]
  by_cases c2 : j = i
  ·subst c2; rw [if_pos (by omega)]; unfold hasAt; rw [hf]
  ·rw [if_neg (by omega)]
theorem partC_all {s : NSt} {here : Int} (h : tellC s here = 0) : partC s s.N = tellB s here := by
 unfold tellB partC
 rw [if_pos h]
 apply List.map_congr_left
 intro j hj
 rw [if_pos (List.mem_range.1 hj)]
def SpansToldR (w w' : World) (e : Ending) (S : List RSpan) (H : List Bool) (c : Int) : Prop :=
 ∃ A n k B m d, e = .returned (.tuple #[.slice A n k, .slice B m d, .int .i64 c]) ∧ IsRecs w' RSpan.cells RSpan.ok 2 A n k S ∧ IsBools w' B m d H ∧ Below w.heap.size w w' ∧ (∀ x, A = some x → w.heap.size ≤ x.block) ∧ (∀ x, B = some x → w.heap.size ≤ x.block)
set_option maxRecDepth 100000 in
set_option maxHeartbeats 4000000 in
theorem r2_Spans_back (M : Nat) (s : NSt) (here : Int) (w : World) (h : RNodeAt w M s) (hb : s.backB here = true) :
  Calls Tryz.prog 114 #[.pointer (some ⟨M, 0, none⟩), .int .i64 here] w fun e w' => SpansToldR w w' e (tellS s here) (tellB s here) (tellC s here) := by
 have HT := Lib.hid (tell_back hb)
 have CB := Lib.hid (fun w' (hb' : Below w.heap.size w w') => by have := r2_Back M s here w' (h.below hb'); rw [hb] at this; exact this)
 have e1 := Lib.hid (show tellS s here = [] by unfold tellS; rw [HT.out]; rfl)
 have e2 := Lib.hid (show tellB s here = [] by unfold tellB; rw [HT.out]; rfl)
 clear h hb
 go_enter Tryz.func114, Tryz.ntmps114
 go_wp2_with fail
 refine (CB.out _ (by exact BeL)).mono ?_
 rintro e w' ⟨rfl, rfl⟩
 go_wp2_with fail
 refine bodyPost_ret (v := .tuple #[.slice none 0 0, .slice none 0 0, .int .i64 8]) (by simp [results, Tryz.results114, go_sem]) rfl ?_
 exact ⟨none, 0, 0, none, 0, 0, by rw [HT.out], by rw [e1.out]; exact recs_nil _ _ _ _, by rw [e2.out]; exact bools_nil _, BeL, fun x e => (by cases e), fun x e => (by cases e)⟩
set_option maxRecDepth 100000 in
set_option maxHeartbeats 8000000 in
theorem r2_Spans_on (M : Nat) (s : NSt) (here : Int) (w : World) (h : RNodeAt w M s) (hb : s.backB here = false) :
  Calls Tryz.prog 114 #[.pointer (some ⟨M, 0, none⟩), .int .i64 here] w fun e w' => SpansToldR w w' e (tellS s here) (tellB s here) (tellC s here) := by
 have HU := Lib.hid h
 have HB := Lib.hid hb
 have CB := Lib.hid (fun w' (hb' : Below w.heap.size w w') => by have := r2_Back M s here w' (h.below hb'); rw [hb] at this; exact this)
 have n1 := h.ok.n1
 have n6 := h.ok.n6
 have hid := h.ok.idN
 have c1 := h.c1
 have c0 := h.c0
 have kl := h.blk.lt
 have E0 := Lib.hid (partS_0 s here)
 have E1 := Lib.hid (partC_0 h.ok.idN)
 obtain ⟨N, hN⟩ : ∃ N, s.N = N := ⟨_, rfl⟩
 rw [hN] at c1 n1 n6 hid E0 E1
 have HN := Lib.hid hN
 have mk3 := make_spans N (by omega)
 have mk4 := run_make_row' (P := Tryz.prog) 124 4 (.bool false) 1 Tryz.underlying124 infoB rfl .i64 .i64 N (by omega) (by omega)
 rw [made_b] at mk4
 have q0 : (s.id : Int) < (N : Int) := by omega
 have q1 : (0 : Int) ≤ (s.id : Int) := by omega
 have hbb : ∀ W : World, Blk (W.alloc (.cells (BCells (List.replicate N false)) 4)) W.heap.size 4 (BCells (List.replicate N false)) := fun W => Blk.new W _ _
 have hcell : ∀ W : World, (W.alloc (.cells (BCells (List.replicate N false)) 4)).cell? ⟨W.heap.size, s.id, none⟩ = some (.bool false) := fun W => (hbb W).bat (by rw [List.getElem?_replicate, if_pos hid])
 have hfz : ∀ W : World, (W.alloc (.cells (BCells (List.replicate N false)) 4)).frozen? ⟨W.heap.size, s.id, none⟩ = false := fun W => (hbb W).fz _
 have h21 := hcell (w.alloc (.cells (SCells (List.replicate N ⟨0, 0⟩)) 34))
 have h22 := hfz (w.alloc (.cells (SCells (List.replicate N ⟨0, 0⟩)) 34))
 simp at h21 h22
 have kl1 : M < w.heap.size + 1 := by omega
 clear h hb hN hbb hcell hfz
 go_enter Tryz.func114, Tryz.ntmps114
 go_wp2_with fail
 refine (CB.out _ (by exact BeL)).mono ?_
 rintro e w' ⟨rfl, rfl⟩
 go_wp2_with fail
 have eB : (BCells (List.replicate N false)).setIfInBounds s.id (.bool true) = BCells (partC s 0) := by
  rw [← E1.out]
  unfold BCells
  rw [List.setIfInBounds_toArray, ← List.map_set]
 obtain ⟨W0, hW0⟩ : ∃ W, ((w.alloc (.cells (SCells (List.replicate N ⟨0, 0⟩)) 34)).alloc (.cells ((BCells (List.replicate N false)).setIfInBounds s.id (.bool true)) 4)) = W := ⟨_, rfl⟩
 have hP : Blk W0 w.heap.size 34 (SCells (partS s here 0)) := by rw [← hW0, E0.out]; exact (Blk.new w _ _).alloc _
 have hQ : Blk W0 (w.heap.size + 1) 4 (BCells (partC s 0)) := by rw [← hW0, ← eB]; exact Blk.newAt _ _ _ _ (by simp)
 have hB : Below w.heap.size w W0 := by rw [← hW0]; exact BeL
 rw [hW0]
 have HP := Lib.hid hP
 have HQ := Lib.hid hQ
 have HB1 := Lib.hid hB
 obtain ⟨p, hp⟩ : ∃ p, w.heap.size = p := ⟨_, rfl⟩
 obtain ⟨q, hq⟩ : ∃ q, w.heap.size + 1 = q := ⟨_, rfl⟩
 rw [hq] at HQ ⊢
 have hpq : w.heap.size ≠ q := by omega
 have hpp : w.heap.size ≤ q := by omega
 clear hW0 hP hQ hB eB mk3 mk4 h21 h22 c0 c1 hp hq CB kl1
 go_loopw [10] (fun iv wr => ∃ i : Nat, iv = .int .i64 i ∧ i ≤ N ∧ Blk wr w.heap.size 34 (SCells (partS s here i)) ∧ Blk wr q 4 (BCells (partC s i)) ∧ Below w.heap.size w wr ∧ ∀ j, j < i → farAt s here j = false) (fun iv _ => N - (intOf iv).toNat)
 case atStart => exact ⟨0, rfl, by omega, HP.out, HQ.out, HB1.out, fun j hj => absurd hj (by omega)⟩
 case round =>
  obtain ⟨i, rfl, hi, hP, hQ, hB, hF⟩ := hrel
  have HPi := Lib.hid hP
  have HQi := Lib.hid hQ
  have HBi := Lib.hid hB
  have HF := Lib.hid hF
  have pl := hP.lt
  have ql := hQ.lt
  have hzr := hB.size
  have kl2 : M < wr.heap.size := by omega
  have hU := HU.out.below hB
  have y1 : wr.cell? ⟨M, 1, none⟩ = some (.int .i64 N) := by have := hU.c1; rw [HN.out] at this; exact this
  by_cases d1 : i < N
  ·have hi6 : i < 6 := by omega
   have yh := hU.chas hi6
   have g1 : (i : Int) < (N : Int) := by omega
   have g2 : (0 : Int) ≤ (i : Int) := by omega
   have g3 : (i : Int) < 6 := by omega
   cases hf : s.f i with
   | none =>
    rw [hf] at yh
    simp only [Option.isSome_none] at yh
    have HS1 := Lib.hid (partS_skip (here := here) hf)
    have HS2 := Lib.hid (partC_skip hf)
    have HF2 := Lib.hid (show ∀ j, j < i + 1 → farAt s here j = false from fun j hj => by
     by_cases e : j < i
     ·exact HF.out j e
     ·have : j = i := by omega
      subst this; unfold farAt; rw [hf])
    clear hf hU hP hQ hB hF
    go_wp2_with fail
    go_roundw
    case rel =>
     have hBB := HBi.out
     refine ⟨i + 1, by go_num, by omega, ?_, ?_, BeL, HF2.out⟩
     ·rw [HS1.out]; exact HPi.out
     ·rw [HS2.out]; exact HQi.out
    case measure => go_light; simp [intOf]; omega
   | some k =>
    rw [hf] at yh
    simp only [Option.isSome_some] at yh
    have CA := Lib.hid (fun W (hb' : Below w.heap.size w W) => r2_aged M s i here k W (HU.out.below hb') hi6 hf HB.out)
    have hsv : spanAt s here i = ⟨ageL k s.p here, ageH k s.p here⟩ := by unfold spanAt; rw [hf]
    have hfv : farAt s here i = !rightB (ageL k s.p here) (ageH k s.p here) := by unfold farAt; rw [hf]
    have hhv : hasAt s i = true := by unfold hasAt; rw [hf]
    have HS1 := Lib.hid (partS_set (s := s) (here := here) (show i < s.N by rw [HN.out]; exact d1))
    have HS2 := Lib.hid (partC_set (s := s) (show i < s.N by rw [HN.out]; exact d1))
    obtain ⟨al, hal⟩ : ∃ v, ageL k s.p here = v := ⟨_, rfl⟩
    obtain ⟨ah, hah⟩ : ∃ v, ageH k s.p here = v := ⟨_, rfl⟩
    rw [hal, hah] at CA hsv hfv
    rw [hsv] at HS1
    rw [hhv] at HS2
    have CR := Lib.hid (fun W => r1_Span al ah W)
    obtain ⟨R, hR⟩ : ∃ b, rightB al ah = b := ⟨_, rfl⟩
    rw [hR] at CR hfv
    have HF2 := Lib.hid (show R = true → ∀ j, j < i + 1 → farAt s here j = false from fun hr j hj => by
     by_cases e : j < i
     ·exact HF.out j e
     ·have : j = i := by omega
      subst this; rw [hfv, hr]; rfl)
    have HF3 := Lib.hid (show R = false → tellC s here = 1 from fun hr => tell_far HB.out (show i < s.N by rw [HN.out]; exact d1) (by rw [hfv, hr]; rfl))
    clear hf hU hP hQ hB hF hal hah hsv hfv hhv hR
    go_wp2_with fail
    refine (CA.out _ HBi.out).mono ?_
    rintro e w3 ⟨rfl, hb3⟩
    have HB3 := Lib.hid hb3
    have HP3 := Lib.hid (HPi.out.below HB3.out pl)
    have HQ3 := Lib.hid (HQi.out.below HB3.out ql)
    have hz3 := HB3.out.size
    have p3 := HP3.out.lt
    have q3 := HQ3.out.lt
    clear hb3 y1 yh
    go_wp2_with fail
    refine (CR.out _).mono ?_
    rintro e w4 ⟨rfl, hb4⟩
    have HAl := Lib.hid ((Below.refl w3.heap.size w3).alloc (Nat.le_refl _) (.cells #[.int .i64 al, .int .i64 ah] 34))
    have HB4 := Lib.hid (HAl.out.trans (hb4.mono HAl.out.size))
    have HT4 : Blk w4 w3.heap.size 34 #[.int .i64 al, .int .i64 ah] := (Blk.new w3 _ _).below hb4 (by simp)
    have HP4 := Lib.hid (HP3.out.below HB4.out p3)
    have HQ4 := Lib.hid (HQ3.out.below HB4.out q3)
    have HBw4 := Lib.hid ((HBi.out.trans (HB3.out.mono hzr)).trans (HB4.out.mono (by omega)))
    have t0 : w4.cell? ⟨w3.heap.size, 0, none⟩ = some (.int .i64 al) := HT4.cell 0
    have t1 : w4.cell? ⟨w3.heap.size, 1, none⟩ = some (.int .i64 ah) := HT4.cell 1
    have z0 : w4.cell? ⟨q, i, none⟩ = some (.bool (if i < i then hasAt s i else decide (i = s.id))) := HQ4.out.bat (partC_get (by rw [HN.out]; exact d1))
    have zf : w4.frozen? ⟨q, i, none⟩ = false := HQ4.out.fz i
    have s0 : w4.cell? ⟨w.heap.size, i * 2, none⟩ = some (.int .i64 0) := HP4.out.sat0 (by rw [partS_get (by rw [HN.out]; exact d1), if_neg (by omega)])
    have s1 : w4.cell? ⟨w.heap.size, i * 2 + 1, none⟩ = some (.int .i64 0) := HP4.out.sat1 (by rw [partS_get (by rw [HN.out]; exact d1), if_neg (by omega)])
    have sf0 : w4.frozen? ⟨w.heap.size, i * 2, none⟩ = false := HP4.out.fz _
    have sf1 : w4.frozen? ⟨w.heap.size, i * 2 + 1, none⟩ = false := HP4.out.fz _
    have p4 := HP4.out.lt
    have q4 := HQ4.out.lt
    clear hb4 HT4 HP3 HQ3 HPi HQi CA CR
    cases R
    ·have HT := Lib.hid (HF3.out rfl)
     have e1 := Lib.hid (show tellS s here = [] by unfold tellS; rw [HT.out]; rfl)
     have e2 := Lib.hid (show tellB s here = [] by unfold tellB; rw [HT.out]; rfl)
     clear HF2 HF3
     go_wp2_with fail
     refine bodyPost_ret (v := .tuple #[.slice none 0 0, .slice none 0 0, .int .i64 1]) (by simp [results, Tryz.results114, go_sem]) rfl ?_
     exact ⟨none, 0, 0, none, 0, 0, by rw [HT.out], by rw [e1.out]; exact recs_nil _ _ _ _, by rw [e2.out]; exact bools_nil _, HBw4.out, fun x e => (by cases e), fun x e => (by cases e)⟩
    ·have HFn := Lib.hid (HF2.out rfl)
     clear HF2 HF3
     go_wp2_with fail
     go_roundw
     case rel =>
      have hBB := HBw4.out
      refine ⟨i + 1, by go_num, by omega, ?_, ?_, BeL, HFn.out⟩
      ·rw [← HS1.out]; exact (HP4.out.sset i al ah).far (p := ⟨q, i, none⟩) hpq _
      ·rw [← HS2.out]; exact ((HQ4.out.far (p := ⟨w.heap.size, i * 2, none⟩) (fun e => hpq e.symm) _).far (p := ⟨w.heap.size, i * 2 + 1, none⟩) (fun e => hpq e.symm) _).bset i true
     case measure => go_light; simp [intOf]; omega
  ·obtain rfl : i = N := by omega
   have HT := Lib.hid (tell_ok HB.out (by rw [HN.out]; exact HF.out))
   have e1 := Lib.hid (partS_all HT.out)
   have e2 := Lib.hid (partC_all HT.out)
   rw [HN.out] at e1 e2
   have hRS := HPi.out.spans (by rw [partS_len, HN.out]) (by unfold maxLen; omega) (spans_ok HU.out.ok HB.out i)
   have hRB := HQi.out.bools (by rw [partC_len, HN.out]) (by unfold maxLen; omega)
   rw [e1.out] at hRS
   rw [e2.out] at hRB
   have HRS := Lib.hid hRS
   have HRB := Lib.hid hRB
   clear hU hP hQ hB hF hRS hRB
   go_wp2_with fail
   refine bodyPost_ret (v := .tuple #[.slice (some ⟨w.heap.size, 0, none⟩) i i, .slice (some ⟨q, 0, none⟩) i i, .int .i64 0]) (by simp [results, Tryz.results114, go_sem]) rfl ?_
   exact ⟨_, _, _, _, _, _, by rw [HT.out], HRS.out, HRB.out, HBi.out, fun x e => (by cases e; exact Nat.le_refl _), fun x e => (by cases e; exact hpp)⟩
theorem r2_Spans (M : Nat) (s : NSt) (here : Int) (w : World) (h : RNodeAt w M s) :
  Calls Tryz.prog 114 #[.pointer (some ⟨M, 0, none⟩), .int .i64 here] w fun e w' => SpansToldR w w' e (tellS s here) (tellB s here) (tellC s here) := by
 cases hb : s.backB here
 ·exact r2_Spans_on M s here w h hb
 ·exact r2_Spans_back M s here w h hb
end


section
open Go.RowKit
theorem edge_oneR (z : REdge) : ∀ u ∈ REdge.cells z, u.oneCell' = true := by
 intro u hu
 simp [REdge.cells] at hu
 rcases hu with rfl | rfl | rfl | rfl <;> rfl
theorem infoEdgeR : (Tryz.prog.info? 208).map (fun i => (i.zero, i.size, i.bytes)) = some (some (.agg #[.int .i64 0, .int .i64 0, .int .i64 0, .int .i64 0]), 4, 32) := by kernel_rfl
def EdgesToldR (w w' : World) (e : Ending) (E : List REdge) (c : Int) : Prop :=
 ∃ A n k, e = .returned (.tuple #[.slice A n k, .int .i64 c]) ∧ IsRecs w' REdge.cells REdge.ok 4 A n k E ∧ Below w.heap.size w w'
set_option maxRecDepth 100000 in
set_option maxHeartbeats 8000000 in
theorem r2_Edges (M : Nat) (s : NSt) (here : Int) (w : World) (h : RNodeAt w M s) :
  Calls Tryz.prog 81 #[.pointer (some ⟨M, 0, none⟩), .int .i64 here] w fun e w' => EdgesToldR w w' e (tellE s here) (tellC s here) := by
 obtain ⟨i0, hi, hz0, hz1, hz2⟩ := info_parts infoEdgeR
 have HU := Lib.hid h
 have HEok := Lib.hid (tellE_ok (here := here) h.ok)
 have n6 := h.ok.n6
 have kl := h.blk.lt
 have CS := Lib.hid (r2_Spans M s here w h)
 clear h
 go_enter Tryz.func81, Tryz.ntmps81
 go_wp2_with fail
 refine CS.out.mono ?_
 rintro e w1 ⟨A0, n, k0, B0, m, d0, rfl, hS, hH, hb1, _, _⟩
 by_cases hc : tellC s here = 0
 ·have HC := Lib.hid hc
  have hSN : n = s.N := by rw [← hS.1]; unfold tellS; rw [if_pos hc]; simp
  have hHN : m = s.N := by rw [← hH.1]; unfold tellB; rw [if_pos hc]; simp
  obtain ⟨N, hN⟩ : ∃ N, s.N = N := ⟨_, rfl⟩
  rw [hN] at hSN hHN n6
  have HN := Lib.hid hN
  subst hSN
  obtain rfl : n = m := hHN.symm
  have hk0 := hS.2.2.1
  have hkn := hS.2.1
  have hd0 := hH.2.2.1
  have hdn := hH.2.1
  unfold maxLen at hk0 hd0
  have HS := Lib.hid hS
  have HH := Lib.hid hH
  have HB1 := Lib.hid hb1
  have hz1' := hb1.size
  rw [hc]
  clear hS hH hb1 hHN CS hN hc
  go_wp2_with fail
  go_loopw [9, 10] (fun vv iv wr => ∃ i : Nat, iv = .int .i64 i ∧ i ≤ n ∧ wr.ownsRow w1.heap.size 208 4 vv ((List.range i).flatMap (edgeAt s here)).length (((List.range i).flatMap (edgeAt s here)).flatMap REdge.cells) ∧ Below w1.heap.size w1 wr) (fun _ iv _ => n - (intOf iv).toNat)
  case atStart => exact ⟨0, rfl, by omega, by simpa using own_nil _ _ _ _, Below.refl _ _⟩
  case round =>
   obtain ⟨i, rfl, hi', hO, hB⟩ := hrel
   have HO := Lib.hid hO
   have HBr := Lib.hid hB
   have hzr := hB.size
   have kl2 : M < wr.heap.size := by omega
   have y0 : wr.cell? ⟨M, 0, none⟩ = some (.int .i64 s.id) := (HU.out.below (HB1.out.trans (hB.mono HB1.out.size))).c0
   obtain ⟨AO, cO, rfl, hAc, hcm⟩ := own_slice hO
   unfold maxLen at hcm
   have hlen := flat_le (edgeAt s here) (edgeAt_len s here) i
   by_cases d1 : i < n
   ·obtain ⟨b1, off1, rfl, hb1', hc1⟩ := HS.out.2.2.2.2 (by omega)
    obtain ⟨b2, off2, rfl, hb2', hc2⟩ := HH.out.2.2.2.2 (by omega)
    have hsz : (tellS s here)[i]? = some (spanAt s here i) := by unfold tellS; rw [if_pos HC.out, List.getElem?_map, HN.out, List.getElem?_range d1]; rfl
    have hbz : (tellB s here)[i]? = some (hasAt s i) := by unfold tellB; rw [if_pos HC.out, List.getElem?_map, HN.out, List.getElem?_range d1]; rfl
    have x0 : wr.cell? ⟨b1, off1 + i * 2, none⟩ = some (.int .i64 (spanAt s here i).lo) := (hB.cell (p := ⟨b1, off1 + i * 2, none⟩) hb1').trans (hc1 i _ hsz 0 _ rfl)
    have x1 : wr.cell? ⟨b1, off1 + i * 2 + 1, none⟩ = some (.int .i64 (spanAt s here i).hi) := (hB.cell (p := ⟨b1, off1 + i * 2 + 1, none⟩) hb1').trans (hc1 i _ hsz 1 _ rfl)
    have x2 : wr.cell? ⟨b2, off2 + i, none⟩ = some (.bool (hasAt s i)) := by have := (hB.cell (p := ⟨b2, off2 + i * 1 + 0, none⟩) hb2').trans (hc2 i _ hbz 0 _ rfl); simpa using this
    have g1 : (i : Int) < (n : Int) := by omega
    have g2 : (0 : Int) ≤ (i : Int) := by omega
    have lb1 : b1 < wr.heap.size := by omega
    have lb2 : b2 < wr.heap.size := by omega
    have hstep : (List.range (i + 1)).flatMap (edgeAt s here) = (List.range i).flatMap (edgeAt s here) ++ edgeAt s here i := by rw [List.range_succ, List.flatMap_append, List.flatMap_cons, List.flatMap_nil, List.append_nil]
    obtain ⟨lo, hlo⟩ : ∃ v, (spanAt s here i).lo = v := ⟨_, rfl⟩
    obtain ⟨hiV, hhi⟩ : ∃ v, (spanAt s here i).hi = v := ⟨_, rfl⟩
    obtain ⟨hv, hhv⟩ : ∃ v, hasAt s i = v := ⟨_, rfl⟩
    rw [hlo] at x0
    rw [hhi] at x1
    rw [hhv] at x2
    by_cases hq : hv = true ∧ i ≠ s.id
    ·obtain ⟨rfl, hne⟩ := hq
     have he : edgeAt s here i = [⟨s.id, i, lo, hiV⟩] := by unfold edgeAt; rw [if_pos ⟨hhv, hne⟩, hlo, hhi]
     have HStep := Lib.hid (show (List.range (i + 1)).flatMap (edgeAt s here) = (List.range i).flatMap (edgeAt s here) ++ [⟨s.id, i, lo, hiV⟩] by rw [hstep, he])
     obtain ⟨E, hE⟩ : ∃ E, (List.range i).flatMap (edgeAt s here) = E := ⟨_, rfl⟩
     rw [hE] at HO HStep hlen hAc ⊢
     have g3 : ((i : Int) != (s.id : Int)) = true := by simp; omega
     have KP := Lib.hid (fun w' (hb : Below wr.heap.size wr w') => show w'.cell? ⟨M, 0, none⟩ = some (.int .i64 s.id) ∧ w'.cell? ⟨b1, off1 + i * 2, none⟩ = some (.int .i64 lo) ∧ w'.cell? ⟨b1, off1 + i * 2 + 1, none⟩ = some (.int .i64 hiV) from ⟨(hb.cell (p := ⟨M, 0, none⟩) kl2).trans y0, (hb.cell (p := ⟨b1, off1 + i * 2, none⟩) lb1).trans x0, (hb.cell (p := ⟨b1, off1 + i * 2 + 1, none⟩) lb1).trans x1⟩)
     have HLow := Lib.hid (fun q (e : (Value.slice AO E.length cO).ownBlock = some q) => (HO.out.lt q e).1)
     have KG := Lib.hid (fun W W' (hb : Below wr.heap.size wr W) (hg : W.grownBy W' (Value.slice AO E.length cO).ownBlock) => show W'.cell? ⟨M, 0, none⟩ = some (.int .i64 s.id) ∧ W'.cell? ⟨b1, off1 + i * 2, none⟩ = some (.int .i64 lo) ∧ W'.cell? ⟨b1, off1 + i * 2 + 1, none⟩ = some (.int .i64 hiV) from by
      obtain ⟨k1, k2, k3⟩ := KP.out W hb
      have n1 : some M ≠ (Value.slice AO E.length cO).ownBlock := fun e => by have := HLow.out _ e.symm; omega
      have n2 : some b1 ≠ (Value.slice AO E.length cO).ownBlock := fun e => by have := HLow.out _ e.symm; omega
      exact ⟨hg.cell k1 n1, hg.cell k2 n2, hg.cell k3 n2⟩)
     clear hstep he hE hO hB hlo hhi hhv hne hsz hbz hc1 hc2
     go_wp2_with fail
     refine wp_region_held_drew (S := fun w9 => w9.cell? ⟨M, 0, none⟩ = some (.int .i64 s.id) ∧ w9.cell? ⟨b1, off1 + i * 2, none⟩ = some (.int .i64 lo) ∧ w9.cell? ⟨b1, off1 + i * 2 + 1, none⟩ = some (.int .i64 hiV)) kRf (⟨y0, x0, x1⟩) (fun hHeld => ?_)
     refine tkH 0 (.slice AO E.length cO) (some 39) rfl hHeld ?_
     try simp only [Act.put,sI_,sZ_,sS_]
     refine tkH 1 (.pointer (some ⟨M, 0, none⟩)) (some 40) rfl hHeld ?_
     try simp only [Act.put,sI_,sZ_,sS_]
     refine tkH 2 (.pointer (some ⟨M, 0, none⟩)) (some 41) rfl hHeld ?_
     try simp only [Act.put,sI_,sZ_,sS_]
     refine tkH 3 (.pointer (some ⟨M, 0, none⟩)) (some 42) rfl hHeld ?_
     try simp only [Act.put,sI_,sZ_,sS_]
     refine tkG 4 (.int .i64 s.id) (some 43) rfl (fun w9 hw9 => by (obtain ⟨a0, a1, a2⟩ := hw9; go_simp)) hHeld ?_
     try simp only [Act.put,sI_,sZ_,sS_]
     refine tkH 5 (.int .i64 i) (some 44) rfl hHeld ?_
     try simp only [Act.put,sI_,sZ_,sS_]
     refine tkH 6 (.slice (some ⟨b1, off1, none⟩) n k0) (some 45) rfl hHeld ?_
     try simp only [Act.put,sI_,sZ_,sS_]
     refine tkH 7 (.int .i64 i) (some 46) rfl hHeld ?_
     try simp only [Act.put,sI_,sZ_,sS_]
     refine tkH 8 (.pointer (some ⟨b1, off1 + i * 2, none⟩)) (some 47) rfl hHeld ?_
     try simp only [Act.put,sI_,sZ_,sS_]
     refine tkG 9 (.agg #[.int .i64 lo, .int .i64 hiV]) (some 48) rfl (fun w9 hw9 => by (obtain ⟨a0, a1, a2⟩ := hw9; go_simp)) hHeld ?_
     try simp only [Act.put,sI_,sZ_,sS_]
     refine tkH 10 (.agg #[.int .i64 s.id, .int .i64 i, .int .i64 lo, .int .i64 hiV]) (some 49) rfl hHeld ?_
     try simp only [Act.put,sI_,sZ_,sS_]
     try simp only [Act.put,sI_,sZ_,sS_]
     refine wpAnyH_ready (rs := [11]) kRf (by simp) ?_; refine AllReadyH.cons rfl (fun K hK => ?_) AllReadyH.nil
     go_simp
     have hAl : Below wr.heap.size wr (wr.drew.alloc (.cells (REdge.cells ⟨s.id, i, lo, hiV⟩).toArray 208)) := (((Below.refl _ wr).drew).alloc (by simp) _)
     refine hK.out _ _ (KP.out _ hAl) (fun hHeld2 => ?_); clear hK K hHeld; have hHeld := hHeld2; clear hHeld2
     try simp only [Act.put,sI_,sZ_,sS_]
     refine wpAnyH_ready (rs := [12]) kRf (by simp) ?_; refine AllReadyH.cons rfl (fun K hK => ?_) AllReadyH.nil
     refine step_append_lies _ rfl _ _ 117 rfl w1.heap.size 208 i0 (.agg #[.int .i64 0, .int .i64 0, .int .i64 0, .int .i64 0]) 4 32 Tryz.underlying117 hi hz0 hz1 hz2 rfl (by decide) (.slice AO E.length cO) E.length (E.flatMap REdge.cells) (by simp [Act.eval, Act.put]) ((HO.out).alloc _) ⟨wr.heap.size, 0, none⟩ 1 1 (REdge.cells ⟨s.id, i, lo, hiV⟩) (by simp [Act.eval, Act.put]) rfl (by exact cell_newAt wr.drew (REdge.cells ⟨s.id, i, lo, hiV⟩) _ _ rfl) (edge_oneR _) (by decide) (by unfold maxLen; omega) (by omega) (by simp; omega) _ rfl ?_
     intro gg cap w5 ho5 hg5 hgg hlt5
     refine hK.out _ _ (KG.out _ _ hAl hg5) (fun hHeld2 => ?_); clear hK K hHeld; have hHeld := hHeld2; clear hHeld2
     change wpAnyH _ _ _ _ _ _ _ (Act.put _ (some 51) _) _
     try simp only [Act.put,sI_,sZ_,sS_]
     refine tkH 13 (.slice (some ⟨gg, 0, none⟩) (E.length + 1) cap) (some 9) rfl hHeld ?_
     try simp only [Act.put,sI_,sZ_,sS_]
     refine wpAnyH_done kRf ?_ _
     try simp only [Act.put,sI_,sZ_,sS_]
     have HB5 := Lib.hid (show Below w1.heap.size w1 w5 from (HBr.out.trans (hAl.mono hzr)).grown hg5 (by simp; omega) (fun k hk => HLow.out k hk))
     have HO5 := Lib.hid (show w5.ownsRow w1.heap.size 208 4 (.slice (some ⟨gg, 0, none⟩) (E.length + 1) cap) ((List.range (i + 1)).flatMap (edgeAt s here)).length (((List.range (i + 1)).flatMap (edgeAt s here)).flatMap REdge.cells) from by rw [HStep.out]; exact own_snoc REdge.cells ho5)
     clear hAl ho5 hg5 hgg KP KG HO HLow hHeld x0 x1 x2 y0
     go_wp2_with fail
     go_roundw
     case rel => exact ⟨i + 1, by go_num, by omega, HO5.out, HB5.out⟩
     case measure => go_light; simp [intOf]; omega
    ·have he : edgeAt s here i = [] := by unfold edgeAt; rw [if_neg (by rw [hhv]; exact hq)]
     have HStep := Lib.hid (show (List.range (i + 1)).flatMap (edgeAt s here) = (List.range i).flatMap (edgeAt s here) by rw [hstep, he, List.append_nil])
     have hd : hv = false ∨ (hv = true ∧ ((i : Int) != (s.id : Int)) = false) := by
      cases hv
      ·exact .inl rfl
      ·right; refine ⟨rfl, ?_⟩; simp; by_cases e : i = s.id; omega; exact absurd ⟨rfl, e⟩ hq
     have HO5 := Lib.hid (show wr.ownsRow w1.heap.size 208 4 (.slice AO ((List.range i).flatMap (edgeAt s here)).length cO) ((List.range (i + 1)).flatMap (edgeAt s here)).length (((List.range (i + 1)).flatMap (edgeAt s here)).flatMap REdge.cells) from by rw [HStep.out]; exact HO.out)
     clear hstep he hO hB hlo hhi hhv hq hsz hbz hc1 hc2 HStep
     rcases hd with rfl | ⟨rfl, g3⟩
     all_goals
      go_wp2_with fail
      go_roundw
      case rel => exact ⟨i + 1, by go_num, by omega, HO5.out, HBr.out⟩
      case measure => go_light; simp [intOf]; omega
   ·obtain rfl : i = n := by omega
    have hE : (List.range i).flatMap (edgeAt s here) = tellE s here := by unfold tellE; rw [if_pos HC.out, HN.out]
    rw [hE] at hO HO ⊢
    obtain ⟨A9, n9, c9, e9, hI9⟩ := own_recs REdge.cells REdge.ok 4 (fun _ => rfl) hO HEok.out
    have HI9 := Lib.hid hI9
    have HB9 := Lib.hid (HB1.out.trans (hB.mono HB1.out.size))
    rw [e9]
    clear hO HO hB hI9 hE e9 hlen hAc hcm y0
    go_wp2_with fail
    refine bodyPost_ret (v := .tuple #[.slice A9 n9 c9, .int .i64 (0 : Int)]) (by simp [results, Tryz.results81, go_sem]) rfl ?_
    exact ⟨_, _, _, by rw [HC.out], HI9.out, HB9.out⟩
 ·have HT := Lib.hid (show tellE s here = [] by unfold tellE; rw [if_neg hc])
  have HB1 := Lib.hid hb1
  obtain ⟨c, hcc⟩ : ∃ c, tellC s here = c := ⟨_, rfl⟩
  rw [hcc] at hc ⊢
  have e1 : (c != 0) = true := by simp; exact hc
  have HCC := Lib.hid hcc
  clear hS hH hb1 CS hcc
  go_wp2_with fail
  refine bodyPost_ret (v := .tuple #[.slice none 0 0, .int .i64 c]) (by simp [results, Tryz.results81, go_sem]) rfl ?_
  exact ⟨none, 0, 0, by rw [HCC.out], by rw [HT.out]; exact recs_nil _ _ _ _, HB1.out⟩
end


section
open Go.RowKit
def rowB (N : Nat) (H : Nat → Nat → Bool) (i : Nat) : List Bool := (List.range N).map (H i)
theorem rowB_at {N : Nat} {H : Nat → Nat → Bool} {i k : Nat} (h : k < N) : (rowB N H i)[k]? = some (H i k) := by
 unfold rowB
 rw [List.getElem?_map, List.getElem?_range h]
 rfl
theorem rowB_len (N : Nat) (H : Nat → Nat → Bool) (i : Nat) : (rowB N H i).length = N := by simp [rowB]
def upH (H : Nat → Nat → Bool) (a b : Nat) : Nat → Nat → Bool := fun i j => if i = a ∧ j = b then true else H i j
theorem rowB_set {N : Nat} {H : Nat → Nat → Bool} {i k : Nat} : (rowB N H i).set k true = rowB N (upH H i k) i := by
 apply List.ext_getElem?
 intro j
 rw [List.getElem?_set]
 by_cases hj : j < N
 ·rw [rowB_at (H := upH H i k) hj]
  by_cases e : k = j
  ·subst e
   rw [if_pos rfl, if_pos (by rw [rowB_len]; exact hj)]
   simp [upH]
  ·rw [if_neg e, rowB_at hj]
   simp [upH, show ¬ j = k from fun h => e h.symm]
 ·rw [List.getElem?_eq_none (l := rowB N (upH H i k) i) (by rw [rowB_len]; omega)]
  by_cases e : k = j
  ·subst e
   rw [if_pos rfl, if_neg (by rw [rowB_len]; omega)]
  ·rw [if_neg e, List.getElem?_eq_none (by rw [rowB_len]; omega)]
theorem rowB_ne {N : Nat} {H : Nat → Nat → Bool} {i j k : Nat} (h : j ≠ i) : rowB N (upH H i k) j = rowB N H j := by
 unfold rowB
 apply List.map_congr_left
 intro a _
 simp [upH, h]
def slV (ρ : Nat → Nat) (N i : Nat) : List Value := (List.range i).map fun j => Value.slice (some ⟨ρ j, 0, none⟩) N N
theorem slV_succ (ρ : Nat → Nat) (N i r : Nat) : slV ρ N i ++ [Value.slice (some ⟨r, 0, none⟩) N N] = slV (fun j => if j = i then r else ρ j) N (i + 1) := by
 unfold slV
 rw [List.range_succ, List.map_append]
 congr 1
 ·apply List.map_congr_left
  intro j hj
  have := List.mem_range.1 hj
  simp only [if_neg (show ¬ j = i by omega)]
 ·simp
theorem slV_at {ρ : Nat → Nat} {N i j : Nat} (h : j < i) : (slV ρ N i)[j]? = some (Value.slice (some ⟨ρ j, 0, none⟩) N N) := by
 unfold slV
 rw [List.getElem?_map, List.getElem?_range h]
 rfl
structure Rows2 (w : World) (B0 i : Nat) (ρ σ : Nat → Nat) (Ti Tb : TypeId) (cs ds : Nat → Array Value) : Prop where
 r1 : ∀ j, j < i → Blk w (ρ j) Ti (cs j)
 r2 : ∀ j, j < i → Blk w (σ j) Tb (ds j)
 i1 : ∀ j k, j < i → k < i → j ≠ k → ρ j ≠ ρ k
 i2 : ∀ j k, j < i → k < i → j ≠ k → σ j ≠ σ k
 b1 : ∀ j, j < i → B0 ≤ ρ j
 b2 : ∀ j, j < i → B0 ≤ σ j
section
variable {w : World} {B0 i : Nat} {ρ σ : Nat → Nat} {Ti Tb : TypeId} {cs ds : Nat → Array Value}
theorem Rows2.nil (w : World) (B0 : Nat) (ρ σ : Nat → Nat) (Ti Tb : TypeId) (cs ds : Nat → Array Value) : Rows2 w B0 0 ρ σ Ti Tb cs ds :=
 ⟨fun j h => absurd h (by omega), fun j h => absurd h (by omega), fun j k h => absurd h (by omega), fun j k h => absurd h (by omega), fun j h => absurd h (by omega), fun j h => absurd h (by omega)⟩
theorem Rows2.keep {w' : World} (h : Rows2 w B0 i ρ σ Ti Tb cs ds) (hk : ∀ b, b < w.heap.size → (∀ T xs, Blk w b T xs → (T = Ti ∨ T = Tb) → Blk w' b T xs)) : Rows2 w' B0 i ρ σ Ti Tb cs ds :=
 ⟨fun j hj => hk _ (h.r1 j hj).lt _ _ (h.r1 j hj) (.inl rfl), fun j hj => hk _ (h.r2 j hj).lt _ _ (h.r2 j hj) (.inr rfl), h.i1, h.i2, h.b1, h.b2⟩
theorem Rows2.snoc {r s : Nat} (h : Rows2 w B0 i ρ σ Ti Tb cs ds) (h1 : Blk w r Ti (cs i)) (h2 : Blk w s Tb (ds i)) (g1 : ∀ j, j < i → ρ j < r) (g2 : ∀ j, j < i → σ j < s) (e1 : B0 ≤ r) (e2 : B0 ≤ s) :
  Rows2 w B0 (i + 1) (fun j => if j = i then r else ρ j) (fun j => if j = i then s else σ j) Ti Tb cs ds := by
 refine ⟨fun j hj => ?_, fun j hj => ?_, fun j k hj hk hne => ?_, fun j k hj hk hne => ?_, fun j hj => ?_, fun j hj => ?_⟩
 ·by_cases e : j = i
  ·subst e; simp only [if_true]; exact h1
  ·simp only [if_neg e]; exact h.r1 j (by omega)
 ·by_cases e : j = i
  ·subst e; simp only [if_true]; exact h2
  ·simp only [if_neg e]; exact h.r2 j (by omega)
 ·by_cases e : j = i <;> by_cases f : k = i
  ·omega
  ·simp only [if_pos e, if_neg f]; have := g1 k (by omega); omega
  ·simp only [if_neg e, if_pos f]; have := g1 j (by omega); omega
  ·simp only [if_neg e, if_neg f]; exact h.i1 j k (by omega) (by omega) hne
 ·by_cases e : j = i <;> by_cases f : k = i
  ·omega
  ·simp only [if_pos e, if_neg f]; have := g2 k (by omega); omega
  ·simp only [if_neg e, if_pos f]; have := g2 j (by omega); omega
  ·simp only [if_neg e, if_neg f]; exact h.i2 j k (by omega) (by omega) hne
 ·by_cases e : j = i
  ·simp only [if_pos e]; exact e1
  ·simp only [if_neg e]; exact h.b1 j (by omega)
 ·by_cases e : j = i
  ·simp only [if_pos e]; exact e2
  ·simp only [if_neg e]; exact h.b2 j (by omega)
end
structure TightAt (w : World) (B0 g1 g2 N : Nat) (cur1 cur2 : Array Value) (ρ σ : Nat → Nat) (Tsi Tsb Ti Tb : TypeId) (D : Nat → Nat → Int) (H : Nat → Nat → Bool) : Prop where
 o1 : Blk w g1 Tsi cur1
 o2 : Blk w g2 Tsb cur2
 rows : Rows2 w B0 N ρ σ Ti Tb (fun j => ICells (rowOf N D j)) (fun j => BCells (rowB N H j))
 c1 : ∀ j, j < N → cur1[j]? = some (Value.slice (some ⟨ρ j, 0, none⟩) N N)
 c2 : ∀ j, j < N → cur2[j]? = some (Value.slice (some ⟨σ j, 0, none⟩) N N)
section
variable {w : World} {B0 g1 g2 N : Nat} {cur1 cur2 : Array Value} {ρ σ : Nat → Nat} {Tsi Tsb Ti Tb : TypeId} {D : Nat → Nat → Int} {H : Nat → Nat → Bool}
theorem TightAt.x1 (h : TightAt w B0 g1 g2 N cur1 cur2 ρ σ Tsi Tsb Ti Tb D H) {j : Nat} (hj : j < N) : w.cell? ⟨g1, j, none⟩ = some (Value.slice (some ⟨ρ j, 0, none⟩) N N) := (h.o1.cell j).trans (h.c1 j hj)
theorem TightAt.x2 (h : TightAt w B0 g1 g2 N cur1 cur2 ρ σ Tsi Tsb Ti Tb D H) {j : Nat} (hj : j < N) : w.cell? ⟨g2, j, none⟩ = some (Value.slice (some ⟨σ j, 0, none⟩) N N) := (h.o2.cell j).trans (h.c2 j hj)
theorem TightAt.d (h : TightAt w B0 g1 g2 N cur1 cur2 ρ σ Tsi Tsb Ti Tb D H) {j k : Nat} (hj : j < N) (hk : k < N) : w.cell? ⟨ρ j, k, none⟩ = some (.int .i64 (D j k)) := (h.rows.r1 j hj).iat (rowOf_at hk)
theorem TightAt.h (h : TightAt w B0 g1 g2 N cur1 cur2 ρ σ Tsi Tsb Ti Tb D H) {j k : Nat} (hj : j < N) (hk : k < N) : w.cell? ⟨σ j, k, none⟩ = some (.bool (H j k)) := (h.rows.r2 j hj).bat (rowB_at hk)
theorem TightAt.drewN (h : TightAt w B0 g1 g2 N cur1 cur2 ρ σ Tsi Tsb Ti Tb D H) (m : Nat) : TightAt (w.drewN m) B0 g1 g2 N cur1 cur2 ρ σ Tsi Tsb Ti Tb D H := ⟨h.o1, h.o2, ⟨h.rows.r1, h.rows.r2, h.rows.i1, h.rows.i2, h.rows.b1, h.rows.b2⟩, h.c1, h.c2⟩
theorem TightAt.setD (h : TightAt w B0 g1 g2 N cur1 cur2 ρ σ Tsi Tsb Ti Tb D H) (n1 : Tsi ≠ Ti) (n2 : Tsb ≠ Ti) (n3 : Tb ≠ Ti) {i : Nat} (hi : i < N) (k : Nat) (v : Int) :
  TightAt (w.setCell ⟨ρ i, k, none⟩ (.int .i64 v)) B0 g1 g2 N cur1 cur2 ρ σ Tsi Tsb Ti Tb (up2 D i k v) H :=
 ⟨h.o1.far (h.o1.type_ne (h.rows.r1 i hi) n1) _, h.o2.far (h.o2.type_ne (h.rows.r1 i hi) n2) _,
  ⟨fun j hj => by
   by_cases e : j = i
   ·subst e
    have := (h.rows.r1 j hj).iset k v
    rw [rowOf_set] at this
    exact this
   ·rw [rowOf_ne _ e]
    exact (h.rows.r1 j hj).far (h.rows.i1 j i hj hi e) _, fun j hj => (h.rows.r2 j hj).far ((h.rows.r2 j hj).type_ne (h.rows.r1 i hi) n3) _, h.rows.i1, h.rows.i2, h.rows.b1, h.rows.b2⟩, h.c1, h.c2⟩
theorem TightAt.setH (h : TightAt w B0 g1 g2 N cur1 cur2 ρ σ Tsi Tsb Ti Tb D H) (n1 : Tsi ≠ Tb) (n2 : Tsb ≠ Tb) (n3 : Ti ≠ Tb) {i : Nat} (hi : i < N) (k : Nat) :
  TightAt (w.setCell ⟨σ i, k, none⟩ (.bool true)) B0 g1 g2 N cur1 cur2 ρ σ Tsi Tsb Ti Tb D (upH H i k) :=
 ⟨h.o1.far (h.o1.type_ne (h.rows.r2 i hi) n1) _, h.o2.far (h.o2.type_ne (h.rows.r2 i hi) n2) _,
  ⟨fun j hj => (h.rows.r1 j hj).far ((h.rows.r1 j hj).type_ne (h.rows.r2 i hi) n3) _, fun j hj => by
   by_cases e : j = i
   ·subst e
    have := (h.rows.r2 j hj).bset k true
    rw [rowB_set] at this
    exact this
   ·rw [rowB_ne e]
    exact (h.rows.r2 j hj).far (h.rows.i2 j i hj hi e) _, h.rows.i1, h.rows.i2, h.rows.b1, h.rows.b2⟩, h.c1, h.c2⟩
theorem TightAt.congr (h : TightAt w B0 g1 g2 N cur1 cur2 ρ σ Tsi Tsb Ti Tb D H) {E : Nat → Nat → Int} {G : Nat → Nat → Bool} (e1 : D = E) (e2 : H = G) : TightAt w B0 g1 g2 N cur1 cur2 ρ σ Tsi Tsb Ti Tb E G := by
 subst e1; subst e2; exact h
theorem TightAt.mats (h : TightAt w B0 g1 g2 N cur1 cur2 ρ σ Tsi Tsb Ti Tb D H) {c d : Nat} (hc : N ≤ c) (hd : N ≤ d) (hc' : c ≤ maxLen) (hd' : d ≤ maxLen) :
  IsMat w intCells 1 (some ⟨g1, 0, none⟩) N c N D ∧ IsMat w boolCells 1 (some ⟨g2, 0, none⟩) N d N H := by
 have hN : N ≤ maxLen := by omega
 refine ⟨⟨rfl, hc, hc', g1, rfl, h.o1.lt, fun i hi => ⟨ρ i, N, h.x1 hi, Nat.le_refl _, hN, (h.rows.r1 i hi).lt, fun j hj q u hu => ?_⟩⟩, ⟨rfl, hd, hd', g2, rfl, h.o2.lt, fun i hi => ⟨σ i, N, h.x2 hi, Nat.le_refl _, hN, (h.rows.r2 i hi).lt, fun j hj q u hu => ?_⟩⟩⟩
 ·have hq : q = 0 := by have := (List.getElem?_eq_some_iff.1 hu).1; simp [intCells] at this; omega
  subst hq
  simp [intCells] at hu
  subst hu
  have := h.d hi hj
  simpa using this
 ·have hq : q = 0 := by have := (List.getElem?_eq_some_iff.1 hu).1; simp [boolCells] at this; omega
  subst hq
  simp [boolCells] at hu
  subst hu
  have := h.h hi hj
  simpa using this
end
def rowUp {α : Type} (D : Nat → Nat → α) (i : Nat) (f : Nat → α) : Nat → Nat → α := fun a => if a = i then f else D a
theorem up2_row (D : Nat → Nat → Int) (i k : Nat) (v : Int) : up2 D i k v = rowUp D i (up1 (D i) k v) := by
 funext a b
 unfold up2 rowUp up1
 by_cases e : a = i
 ·subst e; simp
 ·simp [e]
theorem upH_row (H : Nat → Nat → Bool) (i k : Nat) : upH H i k = rowUp H i (upB (H i) k) := by
 funext a b
 unfold upH rowUp upB
 by_cases e : a = i
 ·subst e; simp
 ·simp [e]
theorem rowUp_same {α : Type} (D : Nat → Nat → α) (i : Nat) : rowUp D i (D i) = D := by
 funext a
 unfold rowUp
 by_cases e : a = i
 ·subst e; simp
 ·simp [e]
theorem rowUp_at {α : Type} (D : Nat → Nat → α) (i : Nat) (f : Nat → α) : rowUp D i f i = f := by simp [rowUp]
theorem rowUp_rowUp {α : Type} (D : Nat → Nat → α) (i : Nat) (f g : Nat → α) : rowUp (rowUp D i f) i g = rowUp D i g := by
 funext a
 unfold rowUp
 by_cases e : a = i
 ·simp [e]
 ·simp [e]
def TabK (N : Nat) (l : List REdge) (R i k S : Nat) (D : Nat → Nat → Int) (H : Nat → Nat → Bool) : Prop :=
 ∀ a, a < N → if a = i then RowT l a R k (S + 2 * k) (D a) (H a) else RowT l a (if a < i then R + 1 else R) 0 (if a < i then S + 2 * l.length else S) (D a) (H a)
theorem TabT.row {N : Nat} {l : List REdge} {R i S : Nat} {D : Nat → Nat → Int} {H : Nat → Nat → Bool} (h : TabT N l R i S D H) : TabK N l R i 0 S D H := by
 intro a ha
 have := h a ha
 by_cases e : a = i
 ·subst e
  rw [if_pos rfl]
  rw [if_neg (by omega), if_neg (by omega)] at this
  exact this
 ·rw [if_neg e]; exact this
theorem TabK.edge {N : Nat} {l : List REdge} {R i k S : Nat} {D : Nat → Nat → Int} {H : Nat → Nat → Bool} (hl : EdgesOk N l) (h : TabK N l R i k S D H) (hi : i < N) {e : REdge} (he : l[k]? = some e) {a b : Nat} (ha : e.a = a) (hb : e.b = b) :
  TabK N l R i (k + 1) S (rowUp D i (edD (D i) (H i) a b e.lo e.hi)) (rowUp H i (edH (D i) (H i) a b e.lo e.hi)) := by
 intro c hc
 have := h c hc
 by_cases f : c = i
 ·subst f
  rw [if_pos rfl] at this ⊢
  rw [rowUp_at, rowUp_at, show S + 2 * (k + 1) = S + 2 * k + 2 by omega]
  exact this.step hl he ha hb
 ·rw [if_neg f] at this ⊢
  unfold rowUp
  rw [if_neg f, if_neg f]
  exact this
theorem TabK.done {N : Nat} {l : List REdge} {R i S : Nat} {D : Nat → Nat → Int} {H : Nat → Nat → Bool} (h : TabK N l R i l.length S D H) : TabT N l R (i + 1) S D H := by
 intro a ha
 have := h a ha
 by_cases e : a = i
 ·subst e
  rw [if_pos rfl] at this
  rw [if_pos (by omega), if_pos (by omega)]
  exact this.next
 ·rw [if_neg e] at this
  by_cases f : a < i
  ·rw [if_pos f, if_pos f] at this
   rw [if_pos (by omega), if_pos (by omega)]
   exact this
  ·rw [if_neg f, if_neg f] at this
   rw [if_neg (by omega), if_neg (by omega)]
   exact this
theorem TabT.again {N : Nat} {l : List REdge} {R S : Nat} {D : Nat → Nat → Int} {H : Nat → Nat → Bool} (h : TabT N l R N S D H) : TabT N l (R + 1) 0 (S + 2 * l.length) D H := by
 intro a ha
 have := h a ha
 rw [if_pos ha, if_pos ha] at this
 rw [if_neg (by omega), if_neg (by omega)]
 exact this
theorem TabK.at_ {N : Nat} {l : List REdge} {R i k S : Nat} {D : Nat → Nat → Int} {H : Nat → Nat → Bool} (h : TabK N l R i k S D H) (hi : i < N) : RowT l i R k (S + 2 * k) (D i) (H i) := by
 have := h i hi
 rw [if_pos rfl] at this
 exact this
def D00 (_ _ : Nat) : Int := 0
def H00 (a b : Nat) : Bool := decide (b = a)
theorem TabT.init (N : Nat) (l : List REdge) : TabT N l 0 0 0 D00 H00 := by
 intro a ha
 rw [if_neg (by omega), if_neg (by omega)]
 exact RowT.init l a _ _ rfl (fun b => by simp [H00])
end
end Go.Proofs.YtldlandcjegikaaGreatDoor
