/- Texts that serve many laws, one behind the other. -/
import Derived.Deep.AppendLies
import Derived.Deep.Light
import Derived.Test.YtmficdfihogffaaDoorHClosed
import Derived.Test.YtmficdfihogffaaDoorHK1
import Derived.Test.YtmficdfihogffaaDoorHK2
import Derived.Test.YtmficdfihogffaaDoorHNodeH
import Derived.Test.YtmficdfihogffaaDoorHRNodeH
import Derived.Test.YtmficdfihogffaaDoorHWorldA
import Derived.Test.YtmficdfihogffaaDoorHWorldF
import Derived.Test.YtmficdfihogffaaDoorHWorldT
/- The reference's node: what it makes of any letter. -/
namespace Go.Proofs.YtmficdfihogffaaDoor
open Go.RowKit
set_option linter.unusedVariables false
set_option linter.unusedSimpArgs false
theorem r2_Hear (M : Nat) (s s' : NSt) (L : RLetter) (here : Int) (b : Bool) (c : Int) (w : World) (h : RNodeAt w M s) (hr : Hears s L here b c s') :
    Calls Tryd.prog 30 #[.pointer (some ⟨M, 0, none⟩), .agg #[.int .i64 L.src, .int .i64 L.dst, .bool L.answer, .int .i64 L.t1, .int .i64 L.t2, .int .i64 L.t], .int .i64 here] w fun e w' =>
      e = .returned (.tuple #[.bool b, .int .i64 c]) ∧ RNodeAt w' M s' ∧ Kept (fun k => k = M) w w' := by
  have hbel : ∀ {w' : World}, Below w.heap.size w w' → RNodeAt w' M s ∧ Kept (fun k => k = M) w w' := fun hb => ⟨h.below hb, (Kept.refl _ w).below hb⟩
  cases hr with
  | back hb => exact (rhear_back M s L here w h hb).mono (by rintro e w' ⟨rfl, h1⟩; exact ⟨rfl, hbel h1⟩)
  | shape hb h1 => exact (rhear_shape M s L here w h hb h1).mono (by rintro e w' ⟨rfl, h1⟩; exact ⟨rfl, hbel h1⟩)
  | ask hb h1 h2 h3 h4 h5 => exact (rhear_ask M s L here w h hb h1 h2 h3 h4 h5).mono (by rintro e w' ⟨rfl, h1⟩; exact ⟨rfl, h1⟩)
  | bad hb h1 h2 h3 h4 h5 h6 => exact (rhear_bad M s L here w h hb h1 h2 h3 h4 h5 h6).mono (by rintro e w' ⟨rfl, h1⟩; exact ⟨rfl, hbel h1⟩)
  | first hb h1 h2 h3 h4 h5 h6 h7 => exact (rhear_first M s L here w h hb h1 h2 h3 h4 h5 h6 h7).mono (by rintro e w' ⟨rfl, h1⟩; exact ⟨rfl, h1⟩)
  | clash k hb h1 h2 h3 h4 h5 h6 h7 h8 => exact (rhear_clash M s L here w h k hb h1 h2 h3 h4 h5 h6 h7 h8).mono (by rintro e w' ⟨rfl, h1⟩; exact ⟨rfl, hbel h1⟩)
  | more k hb h1 h2 h3 h4 h5 h6 h7 h8 => exact (rhear_more M s L here w h k hb h1 h2 h3 h4 h5 h6 h7 h8).mono (by rintro e w' ⟨rfl, h1⟩; exact ⟨rfl, h1⟩)
end Go.Proofs.YtmficdfihogffaaDoor

/- The reference's node: what is told of all, as spans, walked. -/
namespace Go.Proofs.YtmficdfihogffaaDoor
open Go.RowKit
set_option linter.unusedVariables false
set_option linter.unusedSimpArgs false
def partC (s : NSt) (i : Nat) : List Bool := (List.range s.N).map fun j => if j < i then hasAt s j else decide (j = s.id)
theorem partC_len (s : NSt) (i : Nat) : (partC s i).length = s.N := by simp [partC]
theorem partC_get {s : NSt} {i j : Nat} (hj : j < s.N) : (partC s i)[j]? = some (if j < i then hasAt s j else decide (j = s.id)) := by
  unfold partC; rw [List.getElem?_map, List.getElem?_range hj]; rfl
theorem partC_0 {s : NSt} (h : s.id < s.N) : (List.replicate s.N false).set s.id true = partC s 0 := by
  apply List.ext_getElem?
  intro j
  by_cases hj : j < s.N
  · rw [List.getElem?_set, partC_get hj]
    by_cases c : s.id = j
    · subst c; rw [if_pos rfl, List.length_replicate, if_pos h, if_neg (by omega)]; simp
    · rw [if_neg c, List.getElem?_replicate, if_pos hj, if_neg (by omega), decide_eq_false (fun e => c e.symm)]
  · rw [List.getElem?_eq_none (by rw [List.length_set, List.length_replicate]; omega), List.getElem?_eq_none (by rw [partC_len]; omega)]
theorem partC_set {s : NSt} {i : Nat} (hi : i < s.N) : (partC s i).set i (hasAt s i) = partC s (i + 1) := by
  apply List.ext_getElem?
  intro j
  by_cases hj : j < s.N
  · rw [List.getElem?_set, partC_get hj, partC_get hj, partC_len]
    by_cases c : i = j
    · subst c; rw [if_pos rfl, if_pos hi, if_pos (by omega)]
    · rw [if_neg c]
      by_cases c2 : j < i
      · rw [if_pos c2, if_pos (by omega)]
      · rw [if_neg c2, if_neg (by omega)]
  · rw [List.getElem?_eq_none (by rw [List.length_set, partC_len]; omega), List.getElem?_eq_none (by rw [partC_len]; omega)]
theorem partC_skip {s : NSt} {i : Nat} (hf : s.f i = none) : partC s (i + 1) = partC s i := by
  unfold partC
  apply List.map_congr_left
  intro j _
  by_cases c : j < i
  · rw [if_pos c, if_pos (by omega)]
  · rw [if_neg c]
    by_cases c2 : j = i
    · subst c2; rw [if_pos (by omega)]; unfold hasAt; rw [hf]
    · rw [if_neg (by omega)]
theorem partC_all {s : NSt} {here : Int} (h : tellC s here = 0) : partC s s.N = tellB s here := by
  unfold tellB partC
  rw [if_pos h]
  apply List.map_congr_left
  intro j hj
  rw [if_pos (List.mem_range.1 hj)]
/-- two slices and the number of a fault: what is told. -/
def SpansToldR (w w' : World) (e : Ending) (S : List RSpan) (H : List Bool) (c : Int) : Prop :=
  ∃ A n k B m d, e = .returned (.tuple #[.slice A n k, .slice B m d, .int .i64 c]) ∧ IsRecs w' RSpan.cells RSpan.ok 2 A n k S ∧ IsBools w' B m d H ∧ Below w.heap.size w w' ∧ (∀ x, A = some x → w.heap.size ≤ x.block) ∧ (∀ x, B = some x → w.heap.size ≤ x.block)
set_option maxRecDepth 100000 in
set_option maxHeartbeats 4000000 in
theorem r2_Spans_back (M : Nat) (s : NSt) (here : Int) (w : World) (h : RNodeAt w M s) (hb : s.backB here = true) :
    Calls Tryd.prog 63 #[.pointer (some ⟨M, 0, none⟩), .int .i64 here] w fun e w' => SpansToldR w w' e (tellS s here) (tellB s here) (tellC s here) := by
  have HT := Lib.hid (tell_back hb)
  have CB := Lib.hid (fun w' (hb' : Below w.heap.size w w') => by have := r2_Back M s here w' (h.below hb'); rw [hb] at this; exact this)
  have e1 := Lib.hid (show tellS s here = [] by unfold tellS; rw [HT.out]; rfl)
  have e2 := Lib.hid (show tellB s here = [] by unfold tellB; rw [HT.out]; rfl)
  clear h hb
  go_enter Tryd.func63, Tryd.ntmps63
  go_wp2_with fail
  refine (CB.out _ (by exact (by repeat (first | with_reducible exact Below.refl _ _ | (with_reducible refine Below.alloc ?_ (by first | omega | (simp; done) | (simp; omega)) _) | (with_reducible refine Below.setCell ?_ (by first | omega | (simp; done) | (simp; omega)) _) | (with_reducible refine Below.drew ?_) | (with_reducible refine below_drewN ?_ _) | (with_reducible assumption) | (with_reducible refine bel_step (by with_reducible assumption) ?_ (by first | omega | (simp; done) | (simp; omega))))))).mono ?_
  rintro e w' ⟨rfl, rfl⟩
  go_wp2_with fail
  refine bodyPost_ret (v := .tuple #[.slice none 0 0, .slice none 0 0, .int .i64 8]) (by simp [results, Tryd.results63, go_sem]) rfl ?_
  exact ⟨none, 0, 0, none, 0, 0, by rw [HT.out], by rw [e1.out]; exact recs_nil _ _ _ _, by rw [e2.out]; exact bools_nil _, (by repeat (first | with_reducible exact Below.refl _ _ | (with_reducible refine Below.alloc ?_ (by first | omega | (simp; done) | (simp; omega)) _) | (with_reducible refine Below.setCell ?_ (by first | omega | (simp; done) | (simp; omega)) _) | (with_reducible refine Below.drew ?_) | (with_reducible refine below_drewN ?_ _) | (with_reducible assumption) | (with_reducible refine bel_step (by with_reducible assumption) ?_ (by first | omega | (simp; done) | (simp; omega))))), fun x e => (by cases e), fun x e => (by cases e)⟩
set_option maxRecDepth 100000 in
set_option maxHeartbeats 8000000 in
theorem r2_Spans_on (M : Nat) (s : NSt) (here : Int) (w : World) (h : RNodeAt w M s) (hb : s.backB here = false) :
    Calls Tryd.prog 63 #[.pointer (some ⟨M, 0, none⟩), .int .i64 here] w fun e w' => SpansToldR w w' e (tellS s here) (tellB s here) (tellC s here) := by
  have HU := Lib.hid h
  have HB := Lib.hid hb
  have CB := Lib.hid (fun w' (hb' : Below w.heap.size w w') => by have := r2_Back M s here w' (h.below hb'); rw [hb] at this; exact this)
  have n1 := h.ok.n1
  have n6 := h.ok.n6
  have hid := h.ok.idN
  have c1 := h.c1
  have c0 := h.c0
  have kl := h.blk.lt
  have E0 := Lib.hid (partS_0 s here)
  have E1 := Lib.hid (partC_0 h.ok.idN)
  obtain ⟨N, hN⟩ : ∃ N, s.N = N := ⟨_, rfl⟩
  rw [hN] at c1 n1 n6 hid E0 E1
  have HN := Lib.hid hN
  have mk3 := make_spans N (by omega)
  have mk4 := run_make_row' (P := Tryd.prog) 99 4 (.bool false) 1 Tryd.underlying99 infoB rfl .i64 .i64 N (by omega) (by omega)
  rw [made_b] at mk4
  have q0 : (s.id : Int) < (N : Int) := by omega
  have q1 : (0 : Int) ≤ (s.id : Int) := by omega
  have hbb : ∀ W : World, Blk (W.alloc (.cells (BCells (List.replicate N false)) 4)) W.heap.size 4 (BCells (List.replicate N false)) := fun W => Blk.new W _ _
  have hcell : ∀ W : World, (W.alloc (.cells (BCells (List.replicate N false)) 4)).cell? ⟨W.heap.size, s.id, none⟩ = some (.bool false) := fun W => (hbb W).bat (by rw [List.getElem?_replicate, if_pos hid])
  have hfz : ∀ W : World, (W.alloc (.cells (BCells (List.replicate N false)) 4)).frozen? ⟨W.heap.size, s.id, none⟩ = false := fun W => (hbb W).fz _
  have h21 := hcell (w.alloc (.cells (SCells (List.replicate N ⟨0, 0⟩)) 38))
  have h22 := hfz (w.alloc (.cells (SCells (List.replicate N ⟨0, 0⟩)) 38))
  simp at h21 h22
  have kl1 : M < w.heap.size + 1 := by omega
  clear h hb hN hbb hcell hfz
  go_enter Tryd.func63, Tryd.ntmps63
  go_wp2_with fail
  refine (CB.out _ (by exact (by repeat (first | with_reducible exact Below.refl _ _ | (with_reducible refine Below.alloc ?_ (by first | omega | (simp; done) | (simp; omega)) _) | (with_reducible refine Below.setCell ?_ (by first | omega | (simp; done) | (simp; omega)) _) | (with_reducible refine Below.drew ?_) | (with_reducible refine below_drewN ?_ _) | (with_reducible assumption) | (with_reducible refine bel_step (by with_reducible assumption) ?_ (by first | omega | (simp; done) | (simp; omega))))))).mono ?_
  rintro e w' ⟨rfl, rfl⟩
  go_wp2_with fail
  have eB : (BCells (List.replicate N false)).setIfInBounds s.id (.bool true) = BCells (partC s 0) := by
    rw [← E1.out]
    unfold BCells
    rw [List.setIfInBounds_toArray, ← List.map_set]
  obtain ⟨W0, hW0⟩ : ∃ W, ((w.alloc (.cells (SCells (List.replicate N ⟨0, 0⟩)) 38)).alloc (.cells ((BCells (List.replicate N false)).setIfInBounds s.id (.bool true)) 4)) = W := ⟨_, rfl⟩
  have hP : Blk W0 w.heap.size 38 (SCells (partS s here 0)) := by rw [← hW0, E0.out]; exact (Blk.new w _ _).alloc _
  have hQ : Blk W0 (w.heap.size + 1) 4 (BCells (partC s 0)) := by rw [← hW0, ← eB]; exact Blk.newAt _ _ _ _ (by simp)
  have hB : Below w.heap.size w W0 := by rw [← hW0]; exact (by repeat (first | with_reducible exact Below.refl _ _ | (with_reducible refine Below.alloc ?_ (by first | omega | (simp; done) | (simp; omega)) _) | (with_reducible refine Below.setCell ?_ (by first | omega | (simp; done) | (simp; omega)) _) | (with_reducible refine Below.drew ?_) | (with_reducible refine below_drewN ?_ _) | (with_reducible assumption) | (with_reducible refine bel_step (by with_reducible assumption) ?_ (by first | omega | (simp; done) | (simp; omega)))))
  rw [hW0]
  have HP := Lib.hid hP
  have HQ := Lib.hid hQ
  have HB1 := Lib.hid hB
  obtain ⟨p, hp⟩ : ∃ p, w.heap.size = p := ⟨_, rfl⟩
  obtain ⟨q, hq⟩ : ∃ q, w.heap.size + 1 = q := ⟨_, rfl⟩
  rw [hq] at HQ ⊢
  have hpq : w.heap.size ≠ q := by omega
  have hpp : w.heap.size ≤ q := by omega
  clear hW0 hP hQ hB eB mk3 mk4 h21 h22 c0 c1 hp hq CB kl1
  go_loopw [10] (fun iv wr => ∃ i : Nat, iv = .int .i64 i ∧ i ≤ N ∧ Blk wr w.heap.size 38 (SCells (partS s here i)) ∧ Blk wr q 4 (BCells (partC s i)) ∧ Below w.heap.size w wr ∧ ∀ j, j < i → farAt s here j = false) (fun iv _ => N - (intOf iv).toNat)
  case atStart => exact ⟨0, rfl, by omega, HP.out, HQ.out, HB1.out, fun j hj => absurd hj (by omega)⟩
  case round =>
    obtain ⟨i, rfl, hi, hP, hQ, hB, hF⟩ := hrel
    have HPi := Lib.hid hP
    have HQi := Lib.hid hQ
    have HBi := Lib.hid hB
    have HF := Lib.hid hF
    have pl := hP.lt
    have ql := hQ.lt
    have hzr := hB.size
    have kl2 : M < wr.heap.size := by omega
    have hU := HU.out.below hB
    have y1 : wr.cell? ⟨M, 1, none⟩ = some (.int .i64 N) := by have := hU.c1; rw [HN.out] at this; exact this
    by_cases d1 : i < N
    · have hi6 : i < 6 := by omega
      have yh := hU.chas hi6
      have g1 : (i : Int) < (N : Int) := by omega
      have g2 : (0 : Int) ≤ (i : Int) := by omega
      have g3 : (i : Int) < 6 := by omega
      cases hf : s.f i with
      | none =>
        rw [hf] at yh
        simp only [Option.isSome_none] at yh
        have HS1 := Lib.hid (partS_skip (here := here) hf)
        have HS2 := Lib.hid (partC_skip hf)
        have HF2 := Lib.hid (show ∀ j, j < i + 1 → farAt s here j = false from fun j hj => by
          by_cases e : j < i
          · exact HF.out j e
          · have : j = i := by omega
            subst this; unfold farAt; rw [hf])
        clear hf hU hP hQ hB hF
        go_wp2_with fail
        go_roundw
        case rel =>
          have hBB := HBi.out
          refine ⟨i + 1, by go_num, by omega, ?_, ?_, (by repeat (first | with_reducible exact Below.refl _ _ | (with_reducible refine Below.alloc ?_ (by first | omega | (simp; done) | (simp; omega)) _) | (with_reducible refine Below.setCell ?_ (by first | omega | (simp; done) | (simp; omega)) _) | (with_reducible refine Below.drew ?_) | (with_reducible refine below_drewN ?_ _) | (with_reducible assumption) | (with_reducible refine bel_step (by with_reducible assumption) ?_ (by first | omega | (simp; done) | (simp; omega))))), HF2.out⟩
          · rw [HS1.out]; exact HPi.out
          · rw [HS2.out]; exact HQi.out
        case measure => go_light; simp [intOf]; omega
      | some k =>
        rw [hf] at yh
        simp only [Option.isSome_some] at yh
        have CA := Lib.hid (fun W (hb' : Below w.heap.size w W) => r2_aged M s i here k W (HU.out.below hb') hi6 hf HB.out)
        have hsv : spanAt s here i = ⟨ageL k s.p here, ageH k s.p here⟩ := by unfold spanAt; rw [hf]
        have hfv : farAt s here i = !rightB (ageL k s.p here) (ageH k s.p here) := by unfold farAt; rw [hf]
        have hhv : hasAt s i = true := by unfold hasAt; rw [hf]
        have HS1 := Lib.hid (partS_set (s := s) (here := here) (show i < s.N by rw [HN.out]; exact d1))
        have HS2 := Lib.hid (partC_set (s := s) (show i < s.N by rw [HN.out]; exact d1))
        obtain ⟨al, hal⟩ : ∃ v, ageL k s.p here = v := ⟨_, rfl⟩
        obtain ⟨ah, hah⟩ : ∃ v, ageH k s.p here = v := ⟨_, rfl⟩
        rw [hal, hah] at CA hsv hfv
        rw [hsv] at HS1
        rw [hhv] at HS2
        have CR := Lib.hid (fun W => r1_Span al ah W)
        obtain ⟨R, hR⟩ : ∃ b, rightB al ah = b := ⟨_, rfl⟩
        rw [hR] at CR hfv
        have HF2 := Lib.hid (show R = true → ∀ j, j < i + 1 → farAt s here j = false from fun hr j hj => by
          by_cases e : j < i
          · exact HF.out j e
          · have : j = i := by omega
            subst this; rw [hfv, hr]; rfl)
        have HF3 := Lib.hid (show R = false → tellC s here = 1 from fun hr => tell_far HB.out (show i < s.N by rw [HN.out]; exact d1) (by rw [hfv, hr]; rfl))
        clear hf hU hP hQ hB hF hal hah hsv hfv hhv hR
        go_wp2_with fail
        refine (CA.out _ HBi.out).mono ?_
        rintro e w3 ⟨rfl, hb3⟩
        have HB3 := Lib.hid hb3
        have HP3 := Lib.hid (HPi.out.below HB3.out pl)
        have HQ3 := Lib.hid (HQi.out.below HB3.out ql)
        have hz3 := HB3.out.size
        have p3 := HP3.out.lt
        have q3 := HQ3.out.lt
        clear hb3 y1 yh
        go_wp2_with fail
        refine (CR.out _).mono ?_
        rintro e w4 ⟨rfl, hb4⟩
        have HAl := Lib.hid ((Below.refl w3.heap.size w3).alloc (Nat.le_refl _) (.cells #[.int .i64 al, .int .i64 ah] 38))
        have HB4 := Lib.hid (HAl.out.trans (hb4.mono HAl.out.size))
        have HT4 : Blk w4 w3.heap.size 38 #[.int .i64 al, .int .i64 ah] := (Blk.new w3 _ _).below hb4 (by simp)
        have HP4 := Lib.hid (HP3.out.below HB4.out p3)
        have HQ4 := Lib.hid (HQ3.out.below HB4.out q3)
        have HBw4 := Lib.hid ((HBi.out.trans (HB3.out.mono hzr)).trans (HB4.out.mono (by omega)))
        have t0 : w4.cell? ⟨w3.heap.size, 0, none⟩ = some (.int .i64 al) := HT4.cell 0
        have t1 : w4.cell? ⟨w3.heap.size, 1, none⟩ = some (.int .i64 ah) := HT4.cell 1
        have z0 : w4.cell? ⟨q, i, none⟩ = some (.bool (if i < i then hasAt s i else decide (i = s.id))) := HQ4.out.bat (partC_get (by rw [HN.out]; exact d1))
        have zf : w4.frozen? ⟨q, i, none⟩ = false := HQ4.out.fz i
        have s0 : w4.cell? ⟨w.heap.size, i * 2, none⟩ = some (.int .i64 0) := HP4.out.sat0 (by rw [partS_get (by rw [HN.out]; exact d1), if_neg (by omega)])
        have s1 : w4.cell? ⟨w.heap.size, i * 2 + 1, none⟩ = some (.int .i64 0) := HP4.out.sat1 (by rw [partS_get (by rw [HN.out]; exact d1), if_neg (by omega)])
        have sf0 : w4.frozen? ⟨w.heap.size, i * 2, none⟩ = false := HP4.out.fz _
        have sf1 : w4.frozen? ⟨w.heap.size, i * 2 + 1, none⟩ = false := HP4.out.fz _
        have p4 := HP4.out.lt
        have q4 := HQ4.out.lt
        clear hb4 HT4 HP3 HQ3 HPi HQi CA CR
        cases R
        · have HT := Lib.hid (HF3.out rfl)
          have e1 := Lib.hid (show tellS s here = [] by unfold tellS; rw [HT.out]; rfl)
          have e2 := Lib.hid (show tellB s here = [] by unfold tellB; rw [HT.out]; rfl)
          clear HF2 HF3
          go_wp2_with fail
          refine bodyPost_ret (v := .tuple #[.slice none 0 0, .slice none 0 0, .int .i64 1]) (by simp [results, Tryd.results63, go_sem]) rfl ?_
          exact ⟨none, 0, 0, none, 0, 0, by rw [HT.out], by rw [e1.out]; exact recs_nil _ _ _ _, by rw [e2.out]; exact bools_nil _, HBw4.out, fun x e => (by cases e), fun x e => (by cases e)⟩
        · have HFn := Lib.hid (HF2.out rfl)
          clear HF2 HF3
          go_wp2_with fail
          go_roundw
          case rel =>
            have hBB := HBw4.out
            refine ⟨i + 1, by go_num, by omega, ?_, ?_, (by repeat (first | with_reducible exact Below.refl _ _ | (with_reducible refine Below.alloc ?_ (by first | omega | (simp; done) | (simp; omega)) _) | (with_reducible refine Below.setCell ?_ (by first | omega | (simp; done) | (simp; omega)) _) | (with_reducible refine Below.drew ?_) | (with_reducible refine below_drewN ?_ _) | (with_reducible assumption) | (with_reducible refine bel_step (by with_reducible assumption) ?_ (by first | omega | (simp; done) | (simp; omega))))), HFn.out⟩
            · rw [← HS1.out]; exact (HP4.out.sset i al ah).far (p := ⟨q, i, none⟩) hpq _
            · rw [← HS2.out]; exact ((HQ4.out.far (p := ⟨w.heap.size, i * 2, none⟩) (fun e => hpq e.symm) _).far (p := ⟨w.heap.size, i * 2 + 1, none⟩) (fun e => hpq e.symm) _).bset i true
          case measure => go_light; simp [intOf]; omega
    · obtain rfl : i = N := by omega
      have HT := Lib.hid (tell_ok HB.out (by rw [HN.out]; exact HF.out))
      have e1 := Lib.hid (partS_all HT.out)
      have e2 := Lib.hid (partC_all HT.out)
      rw [HN.out] at e1 e2
      have hRS := HPi.out.spans (by rw [partS_len, HN.out]) (by unfold maxLen; omega) (spans_ok HU.out.ok HB.out i)
      have hRB := HQi.out.bools (by rw [partC_len, HN.out]) (by unfold maxLen; omega)
      rw [e1.out] at hRS
      rw [e2.out] at hRB
      have HRS := Lib.hid hRS
      have HRB := Lib.hid hRB
      clear hU hP hQ hB hF hRS hRB
      go_wp2_with fail
      refine bodyPost_ret (v := .tuple #[.slice (some ⟨w.heap.size, 0, none⟩) i i, .slice (some ⟨q, 0, none⟩) i i, .int .i64 0]) (by simp [results, Tryd.results63, go_sem]) rfl ?_
      exact ⟨_, _, _, _, _, _, by rw [HT.out], HRS.out, HRB.out, HBi.out, fun x e => (by cases e; exact Nat.le_refl _), fun x e => (by cases e; exact hpp)⟩
theorem r2_Spans (M : Nat) (s : NSt) (here : Int) (w : World) (h : RNodeAt w M s) :
    Calls Tryd.prog 63 #[.pointer (some ⟨M, 0, none⟩), .int .i64 here] w fun e w' => SpansToldR w w' e (tellS s here) (tellB s here) (tellC s here) := by
  cases hb : s.backB here
  · exact r2_Spans_on M s here w h hb
  · exact r2_Spans_back M s here w h hb
end Go.Proofs.YtmficdfihogffaaDoor

/- The reference's node: the edges that are told, walked. -/
namespace Go.Proofs.YtmficdfihogffaaDoor
open Go.RowKit
set_option linter.unusedVariables false
set_option linter.unusedSimpArgs false
theorem edge_oneR (z : REdge) : ∀ u ∈ REdge.cells z, u.oneCell' = true := by
  intro u hu
  simp [REdge.cells] at hu
  rcases hu with rfl | rfl | rfl | rfl <;> rfl
theorem infoEdgeR : (Tryd.prog.info? 108).map (fun i => (i.zero, i.size, i.bytes)) = some (some (.agg #[.int .i64 0, .int .i64 0, .int .i64 0, .int .i64 0]), 4, 32) := by kernel_rfl
/-- the edges that are told, and the fault. -/
def EdgesToldR (w w' : World) (e : Ending) (E : List REdge) (c : Int) : Prop :=
  ∃ A n k, e = .returned (.tuple #[.slice A n k, .int .i64 c]) ∧ IsRecs w' REdge.cells REdge.ok 4 A n k E ∧ Below w.heap.size w w'
set_option maxRecDepth 100000 in
set_option maxHeartbeats 8000000 in
theorem r2_Edges (M : Nat) (s : NSt) (here : Int) (w : World) (h : RNodeAt w M s) :
    Calls Tryd.prog 36 #[.pointer (some ⟨M, 0, none⟩), .int .i64 here] w fun e w' => EdgesToldR w w' e (tellE s here) (tellC s here) := by
  obtain ⟨i0, hi, hz0, hz1, hz2⟩ := info_parts infoEdgeR
  have HU := Lib.hid h
  have HEok := Lib.hid (tellE_ok (here := here) h.ok)
  have n6 := h.ok.n6
  have kl := h.blk.lt
  have CS := Lib.hid (r2_Spans M s here w h)
  clear h
  go_enter Tryd.func36, Tryd.ntmps36
  go_wp2_with fail
  refine CS.out.mono ?_
  rintro e w1 ⟨A0, n, k0, B0, m, d0, rfl, hS, hH, hb1, _, _⟩
  by_cases hc : tellC s here = 0
  · have HC := Lib.hid hc
    have hSN : n = s.N := by rw [← hS.1]; unfold tellS; rw [if_pos hc]; simp
    have hHN : m = s.N := by rw [← hH.1]; unfold tellB; rw [if_pos hc]; simp
    obtain ⟨N, hN⟩ : ∃ N, s.N = N := ⟨_, rfl⟩
    rw [hN] at hSN hHN n6
    have HN := Lib.hid hN
    subst hSN
    obtain rfl : n = m := hHN.symm
    have hk0 := hS.2.2.1
    have hkn := hS.2.1
    have hd0 := hH.2.2.1
    have hdn := hH.2.1
    unfold maxLen at hk0 hd0
    have HS := Lib.hid hS
    have HH := Lib.hid hH
    have HB1 := Lib.hid hb1
    have hz1' := hb1.size
    rw [hc]
    clear hS hH hb1 hHN CS hN hc
    go_wp2_with fail
    go_loopw [9, 10] (fun vv iv wr => ∃ i : Nat, iv = .int .i64 i ∧ i ≤ n ∧ wr.ownsRow w1.heap.size 108 4 vv ((List.range i).flatMap (edgeAt s here)).length (((List.range i).flatMap (edgeAt s here)).flatMap REdge.cells) ∧ Below w1.heap.size w1 wr) (fun _ iv _ => n - (intOf iv).toNat)
    case atStart => exact ⟨0, rfl, by omega, by simpa using own_nil _ _ _ _, Below.refl _ _⟩
    case round =>
      obtain ⟨i, rfl, hi', hO, hB⟩ := hrel
      have HO := Lib.hid hO
      have HBr := Lib.hid hB
      have hzr := hB.size
      have kl2 : M < wr.heap.size := by omega
      have y0 : wr.cell? ⟨M, 0, none⟩ = some (.int .i64 s.id) := (HU.out.below (HB1.out.trans (hB.mono HB1.out.size))).c0
      obtain ⟨AO, cO, rfl, hAc, hcm⟩ := own_slice hO
      unfold maxLen at hcm
      have hlen := flat_le (edgeAt s here) (edgeAt_len s here) i
      by_cases d1 : i < n
      · obtain ⟨b1, off1, rfl, hb1', hc1⟩ := HS.out.2.2.2.2 (by omega)
        obtain ⟨b2, off2, rfl, hb2', hc2⟩ := HH.out.2.2.2.2 (by omega)
        have hsz : (tellS s here)[i]? = some (spanAt s here i) := by unfold tellS; rw [if_pos HC.out, List.getElem?_map, HN.out, List.getElem?_range d1]; rfl
        have hbz : (tellB s here)[i]? = some (hasAt s i) := by unfold tellB; rw [if_pos HC.out, List.getElem?_map, HN.out, List.getElem?_range d1]; rfl
        have x0 : wr.cell? ⟨b1, off1 + i * 2, none⟩ = some (.int .i64 (spanAt s here i).lo) := (hB.cell (p := ⟨b1, off1 + i * 2, none⟩) hb1').trans (hc1 i _ hsz 0 _ rfl)
        have x1 : wr.cell? ⟨b1, off1 + i * 2 + 1, none⟩ = some (.int .i64 (spanAt s here i).hi) := (hB.cell (p := ⟨b1, off1 + i * 2 + 1, none⟩) hb1').trans (hc1 i _ hsz 1 _ rfl)
        have x2 : wr.cell? ⟨b2, off2 + i, none⟩ = some (.bool (hasAt s i)) := by have := (hB.cell (p := ⟨b2, off2 + i * 1 + 0, none⟩) hb2').trans (hc2 i _ hbz 0 _ rfl); simpa using this
        have g1 : (i : Int) < (n : Int) := by omega
        have g2 : (0 : Int) ≤ (i : Int) := by omega
        have lb1 : b1 < wr.heap.size := by omega
        have lb2 : b2 < wr.heap.size := by omega
        have hstep : (List.range (i + 1)).flatMap (edgeAt s here) = (List.range i).flatMap (edgeAt s here) ++ edgeAt s here i := by rw [List.range_succ, List.flatMap_append, List.flatMap_cons, List.flatMap_nil, List.append_nil]
        obtain ⟨lo, hlo⟩ : ∃ v, (spanAt s here i).lo = v := ⟨_, rfl⟩
        obtain ⟨hiV, hhi⟩ : ∃ v, (spanAt s here i).hi = v := ⟨_, rfl⟩
        obtain ⟨hv, hhv⟩ : ∃ v, hasAt s i = v := ⟨_, rfl⟩
        rw [hlo] at x0
        rw [hhi] at x1
        rw [hhv] at x2
        by_cases hq : hv = true ∧ i ≠ s.id
        · obtain ⟨rfl, hne⟩ := hq
          have he : edgeAt s here i = [⟨s.id, i, lo, hiV⟩] := by unfold edgeAt; rw [if_pos ⟨hhv, hne⟩, hlo, hhi]
          have HStep := Lib.hid (show (List.range (i + 1)).flatMap (edgeAt s here) = (List.range i).flatMap (edgeAt s here) ++ [⟨s.id, i, lo, hiV⟩] by rw [hstep, he])
          obtain ⟨E, hE⟩ : ∃ E, (List.range i).flatMap (edgeAt s here) = E := ⟨_, rfl⟩
          rw [hE] at HO HStep hlen hAc ⊢
          have g3 : ((i : Int) != (s.id : Int)) = true := by simp; omega
          have KP := Lib.hid (fun w' (hb : Below wr.heap.size wr w') => show w'.cell? ⟨M, 0, none⟩ = some (.int .i64 s.id) ∧ w'.cell? ⟨b1, off1 + i * 2, none⟩ = some (.int .i64 lo) ∧ w'.cell? ⟨b1, off1 + i * 2 + 1, none⟩ = some (.int .i64 hiV) from ⟨(hb.cell (p := ⟨M, 0, none⟩) kl2).trans y0, (hb.cell (p := ⟨b1, off1 + i * 2, none⟩) lb1).trans x0, (hb.cell (p := ⟨b1, off1 + i * 2 + 1, none⟩) lb1).trans x1⟩)
          have HLow := Lib.hid (fun q (e : (Value.slice AO E.length cO).ownBlock = some q) => (HO.out.lt q e).1)
          have KG := Lib.hid (fun W W' (hb : Below wr.heap.size wr W) (hg : W.grownBy W' (Value.slice AO E.length cO).ownBlock) => show W'.cell? ⟨M, 0, none⟩ = some (.int .i64 s.id) ∧ W'.cell? ⟨b1, off1 + i * 2, none⟩ = some (.int .i64 lo) ∧ W'.cell? ⟨b1, off1 + i * 2 + 1, none⟩ = some (.int .i64 hiV) from by
            obtain ⟨k1, k2, k3⟩ := KP.out W hb
            have n1 : some M ≠ (Value.slice AO E.length cO).ownBlock := fun e => by have := HLow.out _ e.symm; omega
            have n2 : some b1 ≠ (Value.slice AO E.length cO).ownBlock := fun e => by have := HLow.out _ e.symm; omega
            exact ⟨hg.cell k1 n1, hg.cell k2 n2, hg.cell k3 n2⟩)
          clear hstep he hE hO hB hlo hhi hhv hne hsz hbz hc1 hc2
          go_wp2_with fail
          refine wp_region_held_drew (S := fun w9 => w9.cell? ⟨M, 0, none⟩ = some (.int .i64 s.id) ∧ w9.cell? ⟨b1, off1 + i * 2, none⟩ = some (.int .i64 lo) ∧ w9.cell? ⟨b1, off1 + i * 2 + 1, none⟩ = some (.int .i64 hiV)) (by kernel_rfl) (⟨y0, x0, x1⟩) (fun hHeld => ?_)
          refine take_d (i := 0) (v := (.slice AO E.length cO)) (d := some 39) rfl (by kernel_rfl) (by kernel_rfl) (by kernel_rfl) (by kernel_rfl) (fun _ _ _ h => h) (Or.inl ⟨by kernel_rfl, fun w9 hw9 => by (go_simp)⟩) hHeld ?_
          try simp only [Act.put, List.setIfInBounds_toArray, List.set_cons_zero, List.set_cons_succ]
          refine take_d (i := 1) (v := (.pointer (some ⟨M, 0, none⟩))) (d := some 40) rfl (by kernel_rfl) (by kernel_rfl) (by kernel_rfl) (by kernel_rfl) (fun _ _ _ h => h) (Or.inl ⟨by kernel_rfl, fun w9 hw9 => by (go_simp)⟩) hHeld ?_
          try simp only [Act.put, List.setIfInBounds_toArray, List.set_cons_zero, List.set_cons_succ]
          refine take_d (i := 2) (v := (.pointer (some ⟨M, 0, none⟩))) (d := some 41) rfl (by kernel_rfl) (by kernel_rfl) (by kernel_rfl) (by kernel_rfl) (fun _ _ _ h => h) (Or.inl ⟨by kernel_rfl, fun w9 hw9 => by (go_simp)⟩) hHeld ?_
          try simp only [Act.put, List.setIfInBounds_toArray, List.set_cons_zero, List.set_cons_succ]
          refine take_d (i := 3) (v := (.pointer (some ⟨M, 0, none⟩))) (d := some 42) rfl (by kernel_rfl) (by kernel_rfl) (by kernel_rfl) (by kernel_rfl) (fun _ _ _ h => h) (Or.inl ⟨by kernel_rfl, fun w9 hw9 => by (go_simp)⟩) hHeld ?_
          try simp only [Act.put, List.setIfInBounds_toArray, List.set_cons_zero, List.set_cons_succ]
          refine take_d (i := 4) (v := (.int .i64 s.id)) (d := some 43) rfl (by kernel_rfl) (by kernel_rfl) (by kernel_rfl) (by kernel_rfl) (fun _ _ _ h => h) (Or.inl ⟨by kernel_rfl, fun w9 hw9 => by (obtain ⟨a0, a1, a2⟩ := hw9; go_simp)⟩) hHeld ?_
          try simp only [Act.put, List.setIfInBounds_toArray, List.set_cons_zero, List.set_cons_succ]
          refine take_d (i := 5) (v := (.int .i64 i)) (d := some 44) rfl (by kernel_rfl) (by kernel_rfl) (by kernel_rfl) (by kernel_rfl) (fun _ _ _ h => h) (Or.inl ⟨by kernel_rfl, fun w9 hw9 => by (go_simp)⟩) hHeld ?_
          try simp only [Act.put, List.setIfInBounds_toArray, List.set_cons_zero, List.set_cons_succ]
          refine take_d (i := 6) (v := (.slice (some ⟨b1, off1, none⟩) n k0)) (d := some 45) rfl (by kernel_rfl) (by kernel_rfl) (by kernel_rfl) (by kernel_rfl) (fun _ _ _ h => h) (Or.inl ⟨by kernel_rfl, fun w9 hw9 => by (go_simp)⟩) hHeld ?_
          try simp only [Act.put, List.setIfInBounds_toArray, List.set_cons_zero, List.set_cons_succ]
          refine take_d (i := 7) (v := (.int .i64 i)) (d := some 46) rfl (by kernel_rfl) (by kernel_rfl) (by kernel_rfl) (by kernel_rfl) (fun _ _ _ h => h) (Or.inl ⟨by kernel_rfl, fun w9 hw9 => by (go_simp)⟩) hHeld ?_
          try simp only [Act.put, List.setIfInBounds_toArray, List.set_cons_zero, List.set_cons_succ]
          refine take_d (i := 8) (v := (.pointer (some ⟨b1, off1 + i * 2, none⟩))) (d := some 47) rfl (by kernel_rfl) (by kernel_rfl) (by kernel_rfl) (by kernel_rfl) (fun _ _ _ h => h) (Or.inl ⟨by kernel_rfl, fun w9 hw9 => by (go_simp)⟩) hHeld ?_
          try simp only [Act.put, List.setIfInBounds_toArray, List.set_cons_zero, List.set_cons_succ]
          refine take_d (i := 9) (v := (.agg #[.int .i64 lo, .int .i64 hiV])) (d := some 48) rfl (by kernel_rfl) (by kernel_rfl) (by kernel_rfl) (by kernel_rfl) (fun _ _ _ h => h) (Or.inl ⟨by kernel_rfl, fun w9 hw9 => by (obtain ⟨a0, a1, a2⟩ := hw9; go_simp)⟩) hHeld ?_
          try simp only [Act.put, List.setIfInBounds_toArray, List.set_cons_zero, List.set_cons_succ]
          refine take_d (i := 10) (v := (.agg #[.int .i64 s.id, .int .i64 i, .int .i64 lo, .int .i64 hiV])) (d := some 49) rfl (by kernel_rfl) (by kernel_rfl) (by kernel_rfl) (by kernel_rfl) (fun _ _ _ h => h) (Or.inl ⟨by kernel_rfl, fun w9 hw9 => by (go_simp)⟩) hHeld ?_
          try simp only [Act.put, List.setIfInBounds_toArray, List.set_cons_zero, List.set_cons_succ]
          try simp only [Act.put, List.setIfInBounds_toArray, List.set_cons_zero, List.set_cons_succ]
          refine wpAnyH_ready (rs := [11]) (by kernel_rfl) (by simp) ?_; refine AllReadyH.cons rfl (fun K hK => ?_) AllReadyH.nil
          go_simp
          have hAl : Below wr.heap.size wr (wr.drew.alloc (.cells (REdge.cells ⟨s.id, i, lo, hiV⟩).toArray 108)) := (((Below.refl _ wr).drew).alloc (by simp) _)
          refine hK.out _ _ (KP.out _ hAl) (fun hHeld2 => ?_); clear hK K hHeld; have hHeld := hHeld2; clear hHeld2
          try simp only [Act.put, List.setIfInBounds_toArray, List.set_cons_zero, List.set_cons_succ]
          refine wpAnyH_ready (rs := [12]) (by kernel_rfl) (by simp) ?_; refine AllReadyH.cons rfl (fun K hK => ?_) AllReadyH.nil
          refine step_append_lies _ rfl _ _ 47 rfl w1.heap.size 108 i0 (.agg #[.int .i64 0, .int .i64 0, .int .i64 0, .int .i64 0]) 4 32 Tryd.underlying47 hi hz0 hz1 hz2 rfl (by decide) (.slice AO E.length cO) E.length (E.flatMap REdge.cells) (by simp [Act.eval, Act.put]) ((HO.out).alloc _) ⟨wr.heap.size, 0, none⟩ 1 1 (REdge.cells ⟨s.id, i, lo, hiV⟩) (by simp [Act.eval, Act.put]) rfl (by exact cell_newAt wr.drew (REdge.cells ⟨s.id, i, lo, hiV⟩) _ _ rfl) (edge_oneR _) (by decide) (by unfold maxLen; omega) (by omega) (by simp; omega) _ rfl ?_
          intro gg cap w5 ho5 hg5 hgg hlt5
          refine hK.out _ _ (KG.out _ _ hAl hg5) (fun hHeld2 => ?_); clear hK K hHeld; have hHeld := hHeld2; clear hHeld2
          change wpAnyH _ _ _ _ _ _ _ (Act.put _ (some 51) _) _
          try simp only [Act.put, List.setIfInBounds_toArray, List.set_cons_zero, List.set_cons_succ]
          refine take_d (i := 13) (v := (.slice (some ⟨gg, 0, none⟩) (E.length + 1) cap)) (d := some 9) rfl (by kernel_rfl) (by kernel_rfl) (by kernel_rfl) (by kernel_rfl) (fun _ _ _ h => h) (Or.inl ⟨by kernel_rfl, fun w9 hw9 => by (go_simp)⟩) hHeld ?_
          try simp only [Act.put, List.setIfInBounds_toArray, List.set_cons_zero, List.set_cons_succ]
          refine wpAnyH_done (by kernel_rfl) ?_ _
          try simp only [Act.put, List.setIfInBounds_toArray, List.set_cons_zero, List.set_cons_succ]
          have HB5 := Lib.hid (show Below w1.heap.size w1 w5 from (HBr.out.trans (hAl.mono hzr)).grown hg5 (by simp; omega) (fun k hk => HLow.out k hk))
          have HO5 := Lib.hid (show w5.ownsRow w1.heap.size 108 4 (.slice (some ⟨gg, 0, none⟩) (E.length + 1) cap) ((List.range (i + 1)).flatMap (edgeAt s here)).length (((List.range (i + 1)).flatMap (edgeAt s here)).flatMap REdge.cells) from by rw [HStep.out]; exact own_snoc REdge.cells ho5)
          clear hAl ho5 hg5 hgg KP KG HO HLow hHeld x0 x1 x2 y0
          go_wp2_with fail
          go_roundw
          case rel => exact ⟨i + 1, by go_num, by omega, HO5.out, HB5.out⟩
          case measure => go_light; simp [intOf]; omega
        · have he : edgeAt s here i = [] := by unfold edgeAt; rw [if_neg (by rw [hhv]; exact hq)]
          have HStep := Lib.hid (show (List.range (i + 1)).flatMap (edgeAt s here) = (List.range i).flatMap (edgeAt s here) by rw [hstep, he, List.append_nil])
          have hd : hv = false ∨ (hv = true ∧ ((i : Int) != (s.id : Int)) = false) := by
            cases hv
            · exact .inl rfl
            · right; refine ⟨rfl, ?_⟩; simp; by_cases e : i = s.id; omega; exact absurd ⟨rfl, e⟩ hq
          have HO5 := Lib.hid (show wr.ownsRow w1.heap.size 108 4 (.slice AO ((List.range i).flatMap (edgeAt s here)).length cO) ((List.range (i + 1)).flatMap (edgeAt s here)).length (((List.range (i + 1)).flatMap (edgeAt s here)).flatMap REdge.cells) from by rw [HStep.out]; exact HO.out)
          clear hstep he hO hB hlo hhi hhv hq hsz hbz hc1 hc2 HStep
          rcases hd with rfl | ⟨rfl, g3⟩
          all_goals
            go_wp2_with fail
            go_roundw
            case rel => exact ⟨i + 1, by go_num, by omega, HO5.out, HBr.out⟩
            case measure => go_light; simp [intOf]; omega
      · obtain rfl : i = n := by omega
        have hE : (List.range i).flatMap (edgeAt s here) = tellE s here := by unfold tellE; rw [if_pos HC.out, HN.out]
        rw [hE] at hO HO ⊢
        obtain ⟨A9, n9, c9, e9, hI9⟩ := own_recs REdge.cells REdge.ok 4 (fun _ => rfl) hO HEok.out
        have HI9 := Lib.hid hI9
        have HB9 := Lib.hid (HB1.out.trans (hB.mono HB1.out.size))
        rw [e9]
        clear hO HO hB hI9 hE e9 hlen hAc hcm y0
        go_wp2_with fail
        refine bodyPost_ret (v := .tuple #[.slice A9 n9 c9, .int .i64 (0 : Int)]) (by simp [results, Tryd.results36, go_sem]) rfl ?_
        exact ⟨_, _, _, by rw [HC.out], HI9.out, HB9.out⟩
  · have HT := Lib.hid (show tellE s here = [] by unfold tellE; rw [if_neg hc])
    have HB1 := Lib.hid hb1
    obtain ⟨c, hcc⟩ : ∃ c, tellC s here = c := ⟨_, rfl⟩
    rw [hcc] at hc ⊢
    have e1 : (c != 0) = true := by simp; exact hc
    have HCC := Lib.hid hcc
    clear hS hH hb1 CS hcc
    go_wp2_with fail
    refine bodyPost_ret (v := .tuple #[.slice none 0 0, .int .i64 c]) (by simp [results, Tryd.results36, go_sem]) rfl ?_
    exact ⟨none, 0, 0, by rw [HCC.out], by rw [HT.out]; exact recs_nil _ _ _ _, HB1.out⟩
end Go.Proofs.YtmficdfihogffaaDoor

/- The program's world: what each act and answer does. -/
namespace Go.Proofs.YtmficdfihogffaaDoor
open Go.RowKit
set_option linter.unusedVariables false
set_option linter.unusedSimpArgs false
/-- the letter that comes, behind a pointer. -/
def GotP (w w' : World) : Option RLetter → Value → Value → Prop
  | none, P, _ => P = .pointer none
  | some L, P, uv' => ∃ p, P = .pointer (some ⟨p, 0, none⟩) ∧ w.heap.size ≤ p ∧ Blk w' p 87 (RLetter.cells L).toArray ∧ uv'.ownBlock ≠ some p
/-- what an act does, in the program's world. -/
def DoW (n : Nat) (ss rs : List Int) (t : Int) (us : List RLetter) (A : RAct) (c : Int) (got : Option RLetter) (t' : Int) (us' : List RLetter) : Prop :=
  ∀ (g B : Nat) (uv : Value) (w : World), WorldU w g B n ss rs t uv us →
    Calls Tryd.prog 25 #[.pointer (some ⟨g, 0, none⟩), .agg #[.int .i64 A.what, .int .i64 A.a, .int .i64 A.b]] w fun e w' => ∃ P uv', e = .returned (.tuple #[P, errV c]) ∧ GotP w w' got P uv' ∧ WorldU w' g B n ss rs t' uv' us' ∧ Kept (Mine g uv) w w' ∧ (∀ q, uv'.ownBlock = some q → uv.ownBlock = some q ∨ w.heap.size ≤ q)
def AnsW (n : Nat) (ss rs : List Int) (t : Int) (us : List RLetter) (L : RLetter) (c : Int) (us' : List RLetter) : Prop :=
  ∀ (g B : Nat) (uv : Value) (w : World), WorldU w g B n ss rs t uv us →
    Calls Tryd.prog 28 #[.pointer (some ⟨g, 0, none⟩), .agg #[.int .i64 L.src, .int .i64 L.dst, .bool L.answer, .int .i64 L.t1, .int .i64 L.t2, .int .i64 L.t]] w fun e w' => e = .returned (errV c) ∧ Sent w g B n ss rs t uv us' w'
theorem sent_below {w w' : World} {g B n : Nat} {ss rs : List Int} {t : Int} {uv : Value} {us : List RLetter} (h : WorldU w g B n ss rs t uv us) (hb : Below w.heap.size w w') : Sent w g B n ss rs t uv us w' :=
  ⟨uv, h.below hb, (Kept.refl _ w).below hb, fun _ e => .inl e⟩
theorem dow_below {n : Nat} {ss rs : List Int} {t : Int} {us : List RLetter} {A : RAct} {c : Int} (hc : c ≠ 0)
    (h : ∀ (g B : Nat) (uv : Value) (w : World), WorldU w g B n ss rs t uv us → Calls Tryd.prog 25 #[.pointer (some ⟨g, 0, none⟩), .agg #[.int .i64 A.what, .int .i64 A.a, .int .i64 A.b]] w fun e w' => e = .returned (.tuple #[.pointer none, .iface 75 (.int .i64 c)]) ∧ Below w.heap.size w w') : DoW n ss rs t us A c none t us := fun g B uv w hw => (h g B uv w hw).mono (by
  rintro e w' ⟨rfl, hb⟩
  exact ⟨_, uv, by rw [errV_ne hc], rfl, hw.below hb, (Kept.refl _ w).below hb, fun _ e => .inl e⟩)
theorem act_W {n : Nat} {ss rs : List Int} {t t' : Int} {us us' : List RLetter} {A : RAct} {c : Int} {got : Option RLetter} (h : WAct n ss rs t us A c got t' us') (hA : RAct.ok A) : DoW n ss rs t us A c got t' us' := by
  cases h with
  | gone a b h0 h1 h2 => exact fun g B uv w hw => (world_Do_gone g B n ss rs t uv us a b w hw h0 h1 h2).mono (by rintro e w' ⟨rfl, h1, hk⟩; exact ⟨_, uv, rfl, rfl, h1, hk, fun _ e => .inl e⟩)
  | stays a b h0 => exact dow_below (by decide) fun g B uv w hw => world_Do_stays g B n ss rs t uv us a b w hw hA.2.1 h0
  | askNo a b h0 => exact dow_below (by decide) fun g B uv w hw => world_Do_ask_no g B n ss rs t uv us a b w hw h0
  | askSame i hi => exact dow_below (by decide) fun g B uv w hw => world_Do_ask_same g B n ss rs t uv us i w hw (hasN_nat hi)
  | askFull i k hi hk hne hl => exact dow_below (by decide) fun g B uv w hw => world_Do_full g B n ss rs t uv us i k w hw hi hk hne hl
  | ask i k s r hs hr hk hne hl => exact fun g B uv w hw => (world_Do_ask g B n ss rs t uv us i k s r w hw hs hr hk hne hl).mono (by rintro e w' ⟨rfl, uv', h1, h2, h3⟩; exact ⟨_, uv', rfl, rfl, h1, h2, h3⟩)
  | none_ k a b hk ha => exact dow_below (by decide) fun g B uv w hw => world_Do_none g B n ss rs t uv us k a b w hw hk ha
  | deliver j L b hj => exact fun g B uv w hw => (world_Do_deliver g B n ss rs t uv us j L b w hw hj).mono (by
      rintro e w' ⟨p, rfl, hp, hb, uv', h1, h2, h3⟩
      exact ⟨_, uv', rfl, ⟨p, rfl, hp, hb, fun e => by have := (hw.low _ (h3 p e)).2; omega⟩, h1, h2, fun q e => .inl (h3 q e)⟩)
  | lose j L b hj => exact fun g B uv w hw => (world_Do_lose g B n ss rs t uv us j L b w hw hj).mono (by rintro e w' ⟨rfl, uv', h1, h2, h3⟩; exact ⟨_, uv', rfl, rfl, h1, h2, h3⟩)
  | again j L b hj => exact fun g B uv w hw => (world_Do_repeat g B n ss rs t uv us j L b w hw hj).mono (by
      rintro e w' ⟨p, rfl, hp, hb, h1⟩
      exact ⟨_, uv, rfl, ⟨p, rfl, hp, hb, fun e => by have := (hw.low _ e).2; omega⟩, hw.below h1, (Kept.refl _ w).below h1, fun q e => .inl e⟩)
  | other k a b h1 h2 h3 h4 h5 => exact dow_below (by decide) fun g B uv w hw => world_Do_other g k a b w h1 h2 h3 h4 h5
theorem ans_W {n : Nat} {ss rs : List Int} {t : Int} {us us' : List RLetter} {L : RLetter} {c : Int} (h : WAns n ss rs t us L c us') (hL : RLetter.ok L) : AnsW n ss rs t us L c us' := by
  cases h with
  | yes a b t1 t2 lt => exact fun g B uv w hw => (world_Answer_yes g a b t1 t2 lt w).mono (by rintro e w' ⟨rfl, hb⟩; exact ⟨rfl, sent_below hw hb⟩)
  | no a b t1 t2 lt h0 => exact fun g B uv w hw => (world_Answer_no g B n ss rs t uv us a b t1 t2 lt w hw h0).mono (by rintro e w' ⟨rfl, hb⟩; exact ⟨rfl, sent_below hw hb⟩)
  | full i k t1 t2 lt hi hk hl => exact fun g B uv w hw => (world_Answer_full g B n ss rs t uv us i k t1 t2 lt w hw (hasN_nat hi) (hasN_nat hk) hl).mono (by rintro e w' ⟨rfl, hb⟩; exact ⟨rfl, sent_below hw hb⟩)
  | ok i k s r t1 t2 lt hs hr hi hl => exact fun g B uv w hw => (world_Answer g B n ss rs t uv us i k s r t1 t2 lt w hw hs hr hi hl hL.2.2.2.2).mono (by rintro e w' ⟨rfl, h1⟩; exact ⟨rfl, h1⟩)
end Go.Proofs.YtmficdfihogffaaDoor

/- Package node: what a node makes of any letter. -/
namespace Go.Proofs.YtmficdfihogffaaDoor
open Go.RowKit
set_option linter.unusedVariables false
set_option linter.unusedSimpArgs false
theorem node_Hear (g mb K : Nat) (s s' : NSt) (L : RLetter) (here : Int) (b : Bool) (c : Int) (w : World) (h : NodeAt w g mb K s) (hK : K < 1000000) (hr : Hears s L here b c s') :
    Calls Tryd.prog 27 #[.pointer (some ⟨g, 0, none⟩), .agg #[.int .i64 L.src, .int .i64 L.dst, .bool L.answer, .int .i64 L.t1, .int .i64 L.t2, .int .i64 L.t], .int .i64 here] w fun e w' =>
      e = .returned (.tuple #[.bool b, errV c]) ∧ NodeAt w' g mb (K + 1) s' ∧ Kept (NMine g mb) w w' := by
  have hbel : ∀ {w' : World}, Below w.heap.size w w' → NodeAt w' g mb (K + 1) s ∧ Kept (NMine g mb) w w' := fun hb => ⟨(h.below hb).mono (by omega), (Kept.refl _ w).below hb⟩
  cases hr with
  | back hb => exact (hear_back g mb K s L here w h hb).mono (by rintro e w' ⟨rfl, h1⟩; exact ⟨rfl, hbel h1⟩)
  | shape hb h1 => exact (hear_shape g mb K s L here w h hb h1).mono (by rintro e w' ⟨rfl, h1⟩; exact ⟨rfl, hbel h1⟩)
  | ask hb h1 h2 h3 h4 h5 => exact (hear_ask g mb K s L here w h hb h1 h2 h3 h4 h5).mono (by rintro e w' ⟨rfl, h1⟩; exact ⟨rfl, h1⟩)
  | bad hb h1 h2 h3 h4 h5 h6 => exact (hear_bad g mb K s L here w h hb h1 h2 h3 h4 h5 h6).mono (by rintro e w' ⟨rfl, h1⟩; exact ⟨rfl, hbel h1⟩)
  | first hb h1 h2 h3 h4 h5 h6 h7 => exact (hear_first g mb K s L here w h hb h1 h2 h3 h4 h5 h6 h7 hK).mono (by rintro e w' ⟨rfl, h1⟩; exact ⟨rfl, h1⟩)
  | clash k hb h1 h2 h3 h4 h5 h6 h7 h8 => exact (hear_clash g mb K s L here w h k hb h1 h2 h3 h4 h5 h6 h7 h8).mono (by rintro e w' ⟨rfl, h1⟩; exact ⟨rfl, hbel h1⟩)
  | more k hb h1 h2 h3 h4 h5 h6 h7 h8 => exact (hear_more g mb K s L here w h k hb h1 h2 h3 h4 h5 h6 h7 h8 hK).mono (by rintro e w' ⟨rfl, h1⟩; exact ⟨rfl, h1⟩)
end Go.Proofs.YtmficdfihogffaaDoor

/- Package node: what is told of all, as spans, walked. -/
namespace Go.Proofs.YtmficdfihogffaaDoor
open Go.RowKit
set_option linter.unusedVariables false
set_option linter.unusedSimpArgs false
/-- two slices and an error: what is told. -/
def SpansTold (w w' : World) (e : Ending) (S : List RSpan) (H : List Bool) (c : Int) : Prop :=
  ∃ A n k B m d, e = .returned (.tuple #[.slice A n k, .slice B m d, errV c]) ∧ IsRecs w' RSpan.cells RSpan.ok 2 A n k S ∧ IsBools w' B m d H ∧ Below w.heap.size w w' ∧ (∀ x, A = some x → w.heap.size ≤ x.block) ∧ (∀ x, B = some x → w.heap.size ≤ x.block)
set_option maxRecDepth 100000 in
set_option maxHeartbeats 4000000 in
theorem node_Spans_back (g mb K : Nat) (s : NSt) (here : Int) (w : World) (h : NodeAt w g mb K s) (hb : s.backB here = true) :
    Calls Tryd.prog 64 #[.pointer (some ⟨g, 0, none⟩), .int .i64 here] w fun e w' => SpansTold w w' e (tellS s here) (tellB s here) (tellC s here) := by
  have HT := Lib.hid (tell_back hb)
  have CB := Lib.hid (fun w' (hb' : Below w.heap.size w w') => by have := node_back g mb K s here w' (h.below hb'); rw [hb] at this; exact this)
  have e1 := Lib.hid (show tellS s here = [] by unfold tellS; rw [HT.out]; rfl)
  have e2 := Lib.hid (show tellB s here = [] by unfold tellB; rw [HT.out]; rfl)
  clear h hb
  go_enter Tryd.func64, Tryd.ntmps64
  go_wp2_with fail
  refine (CB.out _ (by exact (by repeat (first | with_reducible exact Below.refl _ _ | (with_reducible refine Below.alloc ?_ (by first | omega | (simp; done) | (simp; omega)) _) | (with_reducible refine Below.setCell ?_ (by first | omega | (simp; done) | (simp; omega)) _) | (with_reducible refine Below.drew ?_) | (with_reducible refine below_drewN ?_ _) | (with_reducible assumption) | (with_reducible refine bel_step (by with_reducible assumption) ?_ (by first | omega | (simp; done) | (simp; omega))))))).mono ?_
  rintro e w' ⟨rfl, rfl⟩
  go_wp2_with fail
  refine bodyPost_ret (v := .tuple #[.slice none 0 0, .slice none 0 0, .iface 75 (.int .i64 8)]) (by simp [results, Tryd.results64, go_sem]) rfl ?_
  exact ⟨none, 0, 0, none, 0, 0, by rw [HT.out]; rfl, by rw [e1.out]; exact recs_nil _ _ _ _, by rw [e2.out]; exact bools_nil _, (by repeat (first | with_reducible exact Below.refl _ _ | (with_reducible refine Below.alloc ?_ (by first | omega | (simp; done) | (simp; omega)) _) | (with_reducible refine Below.setCell ?_ (by first | omega | (simp; done) | (simp; omega)) _) | (with_reducible refine Below.drew ?_) | (with_reducible refine below_drewN ?_ _) | (with_reducible assumption) | (with_reducible refine bel_step (by with_reducible assumption) ?_ (by first | omega | (simp; done) | (simp; omega))))), fun x e => (by cases e), fun x e => (by cases e)⟩
set_option maxRecDepth 100000 in
set_option maxHeartbeats 8000000 in
theorem node_Spans_on (g mb K : Nat) (s : NSt) (here : Int) (w : World) (h : NodeAt w g mb K s) (hb : s.backB here = false) :
    Calls Tryd.prog 64 #[.pointer (some ⟨g, 0, none⟩), .int .i64 here] w fun e w' => SpansTold w w' e (tellS s here) (tellB s here) (tellC s here) := by
  have HU := Lib.hid h
  have HB := Lib.hid hb
  have CB := Lib.hid (fun w' (hb' : Below w.heap.size w w') => by have := node_back g mb K s here w' (h.below hb'); rw [hb] at this; exact this)
  have n1 := h.ok.n1
  have n6 := h.ok.n6
  have c1 := h.blk.cell 1
  have kl := h.blk.lt
  simp at c1
  obtain ⟨N, hN⟩ : ∃ N, s.N = N := ⟨_, rfl⟩
  rw [hN] at c1 n1 n6
  have HN := Lib.hid hN
  have mk3 := make_spans N (by omega)
  have mk4 := run_make_row' (P := Tryd.prog) 99 4 (.bool false) 1 Tryd.underlying99 infoB rfl .i64 .i64 N (by omega) (by omega)
  rw [made_b] at mk4
  clear h hb hN
  go_enter Tryd.func64, Tryd.ntmps64
  go_wp2_with fail
  refine (CB.out _ (by exact (by repeat (first | with_reducible exact Below.refl _ _ | (with_reducible refine Below.alloc ?_ (by first | omega | (simp; done) | (simp; omega)) _) | (with_reducible refine Below.setCell ?_ (by first | omega | (simp; done) | (simp; omega)) _) | (with_reducible refine Below.drew ?_) | (with_reducible refine below_drewN ?_ _) | (with_reducible assumption) | (with_reducible refine bel_step (by with_reducible assumption) ?_ (by first | omega | (simp; done) | (simp; omega))))))).mono ?_
  rintro e w' ⟨rfl, rfl⟩
  go_wp2_with fail
  go_cut [7, 8] (fun u v wx => ∃ p q, u = .slice (some ⟨p, 0, none⟩) N N ∧ v = .slice (some ⟨q, 0, none⟩) N N ∧ p ≠ q ∧ w.heap.size ≤ p ∧ w.heap.size ≤ q ∧ Blk wx p 38 (SCells (partS s here 0)) ∧ Blk wx q 4 (BCells (partB s 0)) ∧ Below w.heap.size w wx)
  case first =>
    have e0 := partS_0 s here
    have e1 := partB_0 s
    rw [HN.out] at e0 e1
    have E0 := Lib.hid e0
    have E1 := Lib.hid e1
    clear e0 e1
    go_region
    all_goals
      go_wp2_with fail
      go_meet
      case rel =>
        refine ⟨_, _, rfl, rfl, by first | omega | (simp; done), by first | omega | (simp; done), by first | omega | (simp; done), ?_, ?_, (by repeat (first | with_reducible exact Below.refl _ _ | (with_reducible refine Below.alloc ?_ (by first | omega | (simp; done) | (simp; omega)) _) | (with_reducible refine Below.setCell ?_ (by first | omega | (simp; done) | (simp; omega)) _) | (with_reducible refine Below.drew ?_) | (with_reducible refine below_drewN ?_ _) | (with_reducible assumption) | (with_reducible refine bel_step (by with_reducible assumption) ?_ (by first | omega | (simp; done) | (simp; omega)))))⟩
        · rw [E0.out]; exact (by refine BlkG.start ?_; (repeat (first | ((with_reducible apply BlkG.done); (with_reducible assumption); exact rfl) | (with_reducible exact BlkG.newAt (by first | (with_reducible rfl) | omega | (simp; done) | (simp; omega)) rfl) | (with_reducible refine BlkG.drew ?_) | (with_reducible refine BlkG.drewN ?_) | (with_reducible refine BlkG.set ?_) | (with_reducible refine BlkG.far (by first | omega | (simp; done) | (simp; omega)) ?_) | (with_reducible refine BlkG.alloc ?_) | (with_reducible refine BlkG.bel (by with_reducible assumption) (by first | omega | (simp; done) | (simp; omega)) ?_))))
        · rw [E1.out]; exact (by refine BlkG.start ?_; (repeat (first | ((with_reducible apply BlkG.done); (with_reducible assumption); exact rfl) | (with_reducible exact BlkG.newAt (by first | (with_reducible rfl) | omega | (simp; done) | (simp; omega)) rfl) | (with_reducible refine BlkG.drew ?_) | (with_reducible refine BlkG.drewN ?_) | (with_reducible refine BlkG.set ?_) | (with_reducible refine BlkG.far (by first | omega | (simp; done) | (simp; omega)) ?_) | (with_reducible refine BlkG.alloc ?_) | (with_reducible refine BlkG.bel (by with_reducible assumption) (by first | omega | (simp; done) | (simp; omega)) ?_))))
  case rest =>
  obtain ⟨p, q, rfl, rfl, hpq, hp, hq, hbp, hbq, hB⟩ := hcut
  have HP := Lib.hid hbp
  have HQ := Lib.hid hbq
  have HB1 := Lib.hid hB
  have y1 : wc.cell? ⟨g, 1, none⟩ = some (.int .i64 N) := (hB.cell (p := ⟨g, 1, none⟩) kl).trans c1
  clear hbp hbq hB mk3 mk4 c1
  go_wp2_with fail
  go_loopw [31] (fun iv wr => ∃ i : Nat, iv = .int .i64 i ∧ i ≤ N ∧ Blk wr p 38 (SCells (partS s here i)) ∧ Blk wr q 4 (BCells (partB s i)) ∧ Below w.heap.size w wr ∧ ∀ j, j < i → farAt s here j = false) (fun iv _ => N - (intOf iv).toNat)
  case atStart => exact ⟨0, rfl, by omega, HP.out, HQ.out, HB1.out, fun j hj => absurd hj (by omega)⟩
  case round =>
    obtain ⟨i, rfl, hi, hP, hQ, hB, hF⟩ := hrel
    have HPi := Lib.hid hP
    have HQi := Lib.hid hQ
    have HBi := Lib.hid hB
    have HF := Lib.hid hF
    have pl := hP.lt
    have ql := hQ.lt
    have hzr := hB.size
    have kl2 : g < wr.heap.size := by omega
    have hU := HU.out.below hB
    have y0 : wr.cell? ⟨g, 0, none⟩ = some (.int .i64 s.id) := hU.blk.cell 0
    have y4 : wr.cell? ⟨g, 4, none⟩ = some (.map (some mb)) := hU.blk.cell 4
    by_cases d1 : i < N
    · have hx := wf_i64 (show -9223372036854775808 ≤ (i : Int) ∧ (i : Int) ≤ 9223372036854775807 by omega)
      have hl := hU.mp.look (t := 119) (e := 129) Tryd.underlying3 Tryd.underlying119 (z := .agg #[.int .i64 0, .int .i64 0, .int .i64 0]) (by kernel_rfl) hx
      have z0 : wr.cell? ⟨q, i, none⟩ = some (.bool false) := hQ.bat (by rw [partB_get (by rw [HN.out]; exact d1), if_neg (by omega)])
      have zf : wr.frozen? ⟨q, i, none⟩ = false := hQ.fz i
      have g1 : (i : Int) < (N : Int) := by omega
      cases hf : s.f i with
      | none =>
        rw [hf] at hl
        simp only [Option.map_none, Option.getD_none, Option.isSome_none] at hl
        have hbv : ((i : Int) == (s.id : Int)) = hasAt s i := by
          unfold hasAt
          rw [hf]
          by_cases e : i = s.id
          · simp [e]
          · simp [e]; omega
        have HS1 := Lib.hid (partS_skip (here := here) hf)
        have HS2 := Lib.hid (partB_set (s := s) (show i < s.N by rw [HN.out]; exact d1))
        have HF2 := Lib.hid (show ∀ j, j < i + 1 → farAt s here j = false from fun j hj => by
          by_cases e : j < i
          · exact HF.out j e
          · have : j = i := by omega
            subst this; unfold farAt; rw [hf])
        obtain ⟨bv, hbv2⟩ : ∃ b, hasAt s i = b := ⟨_, rfl⟩
        rw [hbv2] at hbv HS2
        clear hf hU hP hQ hB hF hx hbv2
        go_wp2_with fail
        go_roundw
        case rel =>
          have hBB := HBi.out
          refine ⟨i + 1, by go_num, by omega, ?_, ?_, (by repeat (first | with_reducible exact Below.refl _ _ | (with_reducible refine Below.alloc ?_ (by first | omega | (simp; done) | (simp; omega)) _) | (with_reducible refine Below.setCell ?_ (by first | omega | (simp; done) | (simp; omega)) _) | (with_reducible refine Below.drew ?_) | (with_reducible refine below_drewN ?_ _) | (with_reducible assumption) | (with_reducible refine bel_step (by with_reducible assumption) ?_ (by first | omega | (simp; done) | (simp; omega))))), HF2.out⟩
          · rw [HS1.out]; exact (HPi.out.far (p := ⟨q, i, none⟩) hpq _).alloc _
          · rw [← HS2.out]; exact (HQi.out.bset i bv).alloc _
        case measure => go_light; simp [intOf]; omega
      | some k =>
        rw [hf] at hl
        simp only [Option.map_some, Option.getD_some, Option.isSome_some, Kn.val] at hl
        have CA := Lib.hid (fun W (hb' : Below w.heap.size w W) => node_aged g mb K s i here k W (HU.out.below hb') hf HB.out)
        have hsv : spanAt s here i = ⟨ageL k s.p here, ageH k s.p here⟩ := by unfold spanAt; rw [hf]
        have hfv : farAt s here i = !rightB (ageL k s.p here) (ageH k s.p here) := by unfold farAt; rw [hf]
        have hhv : hasAt s i = true := by unfold hasAt; rw [hf]
        have HS1 := Lib.hid (partS_set (s := s) (here := here) (show i < s.N by rw [HN.out]; exact d1))
        have HS2 := Lib.hid (partB_set (s := s) (show i < s.N by rw [HN.out]; exact d1))
        obtain ⟨al, hal⟩ : ∃ v, ageL k s.p here = v := ⟨_, rfl⟩
        obtain ⟨ah, hah⟩ : ∃ v, ageH k s.p here = v := ⟨_, rfl⟩
        rw [hal, hah] at CA hsv hfv
        rw [hsv] at HS1
        rw [hhv] at HS2
        have CR := Lib.hid (fun W => Right_any al ah W)
        have s0 : wr.cell? ⟨p, i * 2, none⟩ = some (.int .i64 0) := hP.sat0 (by rw [partS_get (by rw [HN.out]; exact d1), if_neg (by omega)])
        have s1 : wr.cell? ⟨p, i * 2 + 1, none⟩ = some (.int .i64 0) := hP.sat1 (by rw [partS_get (by rw [HN.out]; exact d1), if_neg (by omega)])
        have sf0 : wr.frozen? ⟨p, i * 2, none⟩ = false := hP.fz _
        have sf1 : wr.frozen? ⟨p, i * 2 + 1, none⟩ = false := hP.fz _
        obtain ⟨R, hR⟩ : ∃ b, rightB al ah = b := ⟨_, rfl⟩
        rw [hR] at CR hfv
        have HF2 := Lib.hid (show R = true → ∀ j, j < i + 1 → farAt s here j = false from fun hr j hj => by
          by_cases e : j < i
          · exact HF.out j e
          · have : j = i := by omega
            subst this; rw [hfv, hr]; rfl)
        have HF3 := Lib.hid (show R = false → tellC s here = 1 from fun hr => tell_far HB.out (show i < s.N by rw [HN.out]; exact d1) (by rw [hfv, hr]; rfl))
        clear hf hU hP hQ hB hF hx hal hah hsv hfv hhv hR
        go_wp2_with fail
        refine (CA.out _ (HBi.out.alloc (by omega) _)).mono ?_
        rintro e w3 ⟨rfl, hb3⟩
        have HB3 := Lib.hid ((Below.refl wr.heap.size wr).alloc (Nat.le_refl _) (.cells #[.int .i64 k.lo, .int .i64 k.hi, .int .i64 k.at_] 129) |>.trans (hb3.mono (by simp)))
        have HP3 := Lib.hid (HPi.out.below HB3.out pl)
        have HQ3 := Lib.hid (HQi.out.below HB3.out ql)
        have hz3 := HB3.out.size
        have p3 := HP3.out.lt
        have q3 := HQ3.out.lt
        clear hb3 z0 zf s0 s1 sf0 sf1 y0 y4
        go_wp2_with fail
        refine (CR.out _).mono ?_
        rintro e w4 ⟨rfl, hb4⟩
        have HAl := Lib.hid ((Below.refl w3.heap.size w3).alloc (Nat.le_refl _) (.cells #[.int .i64 al, .int .i64 ah] 38))
        have HB4 := Lib.hid (HAl.out.trans (hb4.mono HAl.out.size))
        have HT4 : Blk w4 w3.heap.size 38 #[.int .i64 al, .int .i64 ah] := (Blk.new w3 _ _).below hb4 (by simp)
        have HP4 := Lib.hid (HP3.out.below HB4.out p3)
        have HQ4 := Lib.hid (HQ3.out.below HB4.out q3)
        have HBw4 := Lib.hid ((HBi.out.trans (HB3.out.mono hzr)).trans (HB4.out.mono (by omega)))
        have t0 : w4.cell? ⟨w3.heap.size, 0, none⟩ = some (.int .i64 al) := HT4.cell 0
        have t1 : w4.cell? ⟨w3.heap.size, 1, none⟩ = some (.int .i64 ah) := HT4.cell 1
        have z0 : w4.cell? ⟨q, i, none⟩ = some (.bool false) := HQ4.out.bat (by rw [partB_get (by rw [HN.out]; exact d1), if_neg (by omega)])
        have zf : w4.frozen? ⟨q, i, none⟩ = false := HQ4.out.fz i
        have s0 : w4.cell? ⟨p, i * 2, none⟩ = some (.int .i64 0) := HP4.out.sat0 (by rw [partS_get (by rw [HN.out]; exact d1), if_neg (by omega)])
        have s1 : w4.cell? ⟨p, i * 2 + 1, none⟩ = some (.int .i64 0) := HP4.out.sat1 (by rw [partS_get (by rw [HN.out]; exact d1), if_neg (by omega)])
        have sf0 : w4.frozen? ⟨p, i * 2, none⟩ = false := HP4.out.fz _
        have sf1 : w4.frozen? ⟨p, i * 2 + 1, none⟩ = false := HP4.out.fz _
        have p4 := HP4.out.lt
        have q4 := HQ4.out.lt
        clear hb4 HT4 HP3 HQ3 HPi HQi CA CR
        cases R
        · have HT := Lib.hid (HF3.out rfl)
          have e1 := Lib.hid (show tellS s here = [] by unfold tellS; rw [HT.out]; rfl)
          have e2 := Lib.hid (show tellB s here = [] by unfold tellB; rw [HT.out]; rfl)
          clear HF2 HF3
          go_wp2_with fail
          refine bodyPost_ret (v := .tuple #[.slice none 0 0, .slice none 0 0, .iface 75 (.int .i64 1)]) (by simp [results, Tryd.results64, go_sem]) rfl ?_
          exact ⟨none, 0, 0, none, 0, 0, by rw [HT.out]; rfl, by rw [e1.out]; exact recs_nil _ _ _ _, by rw [e2.out]; exact bools_nil _, HBw4.out, fun x e => (by cases e), fun x e => (by cases e)⟩
        · have HFn := Lib.hid (HF2.out rfl)
          clear HF2 HF3
          go_wp2_with fail
          go_roundw
          case rel =>
            have hBB := HBw4.out
            refine ⟨i + 1, by go_num, by omega, ?_, ?_, (by repeat (first | with_reducible exact Below.refl _ _ | (with_reducible refine Below.alloc ?_ (by first | omega | (simp; done) | (simp; omega)) _) | (with_reducible refine Below.setCell ?_ (by first | omega | (simp; done) | (simp; omega)) _) | (with_reducible refine Below.drew ?_) | (with_reducible refine below_drewN ?_ _) | (with_reducible assumption) | (with_reducible refine bel_step (by with_reducible assumption) ?_ (by first | omega | (simp; done) | (simp; omega))))), HFn.out⟩
            · rw [← HS1.out]; exact (HP4.out.sset i al ah).far (p := ⟨q, i, none⟩) hpq _
            · rw [← HS2.out]; exact ((HQ4.out.far (p := ⟨p, i * 2, none⟩) (fun e => hpq e.symm) _).far (p := ⟨p, i * 2 + 1, none⟩) (fun e => hpq e.symm) _).bset i true
          case measure => go_light; simp [intOf]; omega
    · obtain rfl : i = N := by omega
      have HT := Lib.hid (tell_ok HB.out (by rw [HN.out]; exact HF.out))
      have e1 := Lib.hid (partS_all HT.out)
      have e2 := Lib.hid (partB_all HT.out)
      rw [HN.out] at e1 e2
      have hRS := HPi.out.spans (by rw [partS_len, HN.out]) (by unfold maxLen; omega) (spans_ok HU.out.ok HB.out i)
      have hRB := HQi.out.bools (by rw [partB_len, HN.out]) (by unfold maxLen; omega)
      rw [e1.out] at hRS
      rw [e2.out] at hRB
      have HRS := Lib.hid hRS
      have HRB := Lib.hid hRB
      clear hU hP hQ hB hF hRS hRB
      go_wp2_with fail
      refine bodyPost_ret (v := .tuple #[.slice (some ⟨p, 0, none⟩) i i, .slice (some ⟨q, 0, none⟩) i i, .nilIface]) (by simp [results, Tryd.results64, go_sem]) rfl ?_
      exact ⟨_, _, _, _, _, _, by rw [HT.out]; rfl, HRS.out, HRB.out, HBi.out, fun x e => (by cases e; exact hp), fun x e => (by cases e; exact hq)⟩
theorem node_Spans (g mb K : Nat) (s : NSt) (here : Int) (w : World) (h : NodeAt w g mb K s) :
    Calls Tryd.prog 64 #[.pointer (some ⟨g, 0, none⟩), .int .i64 here] w fun e w' => SpansTold w w' e (tellS s here) (tellB s here) (tellC s here) := by
  cases hb : s.backB here
  · exact node_Spans_on g mb K s here w h hb
  · exact node_Spans_back g mb K s here w h hb
end Go.Proofs.YtmficdfihogffaaDoor

/- A node: the edges that are told, walked. -/
namespace Go.Proofs.YtmficdfihogffaaDoor
open Go.RowKit
set_option linter.unusedVariables false
set_option linter.unusedSimpArgs false
theorem edge_oneN (z : REdge) : ∀ u ∈ REdge.cells z, u.oneCell' = true := by
  intro u hu
  simp [REdge.cells] at hu
  rcases hu with rfl | rfl | rfl | rfl <;> rfl
theorem infoEdgeN : (Tryd.prog.info? 108).map (fun i => (i.zero, i.size, i.bytes)) = some (some (.agg #[.int .i64 0, .int .i64 0, .int .i64 0, .int .i64 0]), 4, 32) := by kernel_rfl
/-- the edges that are told, and the fault. -/
def EdgesTold (w w' : World) (e : Ending) (E : List REdge) (c : Int) : Prop :=
  ∃ A n k, e = .returned (.tuple #[.slice A n k, errV c]) ∧ IsRecs w' REdge.cells REdge.ok 4 A n k E ∧ Below w.heap.size w w'
set_option maxRecDepth 100000 in
set_option maxHeartbeats 8000000 in
theorem node_Edges (g mb K : Nat) (s : NSt) (here : Int) (w : World) (h : NodeAt w g mb K s) :
    Calls Tryd.prog 37 #[.pointer (some ⟨g, 0, none⟩), .int .i64 here] w fun e w' => EdgesTold w w' e (tellE s here) (tellC s here) := by
  obtain ⟨i0, hi, hz0, hz1, hz2⟩ := info_parts infoEdgeN
  have HU := Lib.hid h
  have HEok := Lib.hid (tellE_ok (here := here) h.ok)
  have n6 := h.ok.n6
  have kl := h.blk.lt
  have CS := Lib.hid (node_Spans g mb K s here w h)
  clear h
  go_enter Tryd.func37, Tryd.ntmps37
  go_wp2_with fail
  refine CS.out.mono ?_
  rintro e w1 ⟨A0, n, k0, B0, m, d0, rfl, hS, hH, hb1, _, _⟩
  by_cases hc : tellC s here = 0
  · have HC := Lib.hid hc
    have hSN : n = s.N := by rw [← hS.1]; unfold tellS; rw [if_pos hc]; simp
    have hHN : m = s.N := by rw [← hH.1]; unfold tellB; rw [if_pos hc]; simp
    obtain ⟨N, hN⟩ : ∃ N, s.N = N := ⟨_, rfl⟩
    rw [hN] at hSN hHN n6
    have HN := Lib.hid hN
    subst hSN
    obtain rfl : n = m := hHN.symm
    have hk0 := hS.2.2.1
    have hkn := hS.2.1
    have hd0 := hH.2.2.1
    have hdn := hH.2.1
    unfold maxLen at hk0 hd0
    have HS := Lib.hid hS
    have HH := Lib.hid hH
    have HB1 := Lib.hid hb1
    have hz1' := hb1.size
    rw [hc]
    clear hS hH hb1 hHN CS hN hc
    go_wp2_with fail
    go_loopw [9, 24] (fun vv iv wr => ∃ i : Nat, iv = .int .i64 i ∧ i ≤ n ∧ wr.ownsRow w1.heap.size 108 4 vv ((List.range i).flatMap (edgeAt s here)).length (((List.range i).flatMap (edgeAt s here)).flatMap REdge.cells) ∧ Below w1.heap.size w1 wr) (fun _ iv _ => n - (intOf iv).toNat)
    case atStart => exact ⟨0, rfl, by omega, by simpa using own_nil _ _ _ _, Below.refl _ _⟩
    case round =>
      obtain ⟨i, rfl, hi', hO, hB⟩ := hrel
      have HO := Lib.hid hO
      have HBr := Lib.hid hB
      have hzr := hB.size
      have kl2 : g < wr.heap.size := by omega
      have y0 : wr.cell? ⟨g, 0, none⟩ = some (.int .i64 s.id) := (HU.out.below (HB1.out.trans (hB.mono HB1.out.size))).blk.cell 0
      obtain ⟨AO, cO, rfl, hAc, hcm⟩ := own_slice hO
      unfold maxLen at hcm
      have hlen := flat_le (edgeAt s here) (edgeAt_len s here) i
      by_cases d1 : i < n
      · obtain ⟨b1, off1, rfl, hb1', hc1⟩ := HS.out.2.2.2.2 (by omega)
        obtain ⟨b2, off2, rfl, hb2', hc2⟩ := HH.out.2.2.2.2 (by omega)
        have hsz : (tellS s here)[i]? = some (spanAt s here i) := by unfold tellS; rw [if_pos HC.out, List.getElem?_map, HN.out, List.getElem?_range d1]; rfl
        have hbz : (tellB s here)[i]? = some (hasAt s i) := by unfold tellB; rw [if_pos HC.out, List.getElem?_map, HN.out, List.getElem?_range d1]; rfl
        have x0 : wr.cell? ⟨b1, off1 + i * 2, none⟩ = some (.int .i64 (spanAt s here i).lo) := (hB.cell (p := ⟨b1, off1 + i * 2, none⟩) hb1').trans (hc1 i _ hsz 0 _ rfl)
        have x1 : wr.cell? ⟨b1, off1 + i * 2 + 1, none⟩ = some (.int .i64 (spanAt s here i).hi) := (hB.cell (p := ⟨b1, off1 + i * 2 + 1, none⟩) hb1').trans (hc1 i _ hsz 1 _ rfl)
        have x2 : wr.cell? ⟨b2, off2 + i, none⟩ = some (.bool (hasAt s i)) := by have := (hB.cell (p := ⟨b2, off2 + i * 1 + 0, none⟩) hb2').trans (hc2 i _ hbz 0 _ rfl); simpa using this
        have g1 : (i : Int) < (n : Int) := by omega
        have g2 : (0 : Int) ≤ (i : Int) := by omega
        have lb1 : b1 < wr.heap.size := by omega
        have lb2 : b2 < wr.heap.size := by omega
        have hstep : (List.range (i + 1)).flatMap (edgeAt s here) = (List.range i).flatMap (edgeAt s here) ++ edgeAt s here i := by rw [List.range_succ, List.flatMap_append, List.flatMap_cons, List.flatMap_nil, List.append_nil]
        obtain ⟨lo, hlo⟩ : ∃ v, (spanAt s here i).lo = v := ⟨_, rfl⟩
        obtain ⟨hiV, hhi⟩ : ∃ v, (spanAt s here i).hi = v := ⟨_, rfl⟩
        obtain ⟨hv, hhv⟩ : ∃ v, hasAt s i = v := ⟨_, rfl⟩
        rw [hlo] at x0
        rw [hhi] at x1
        rw [hhv] at x2
        by_cases hq : hv = true ∧ i ≠ s.id
        · obtain ⟨rfl, hne⟩ := hq
          have he : edgeAt s here i = [⟨s.id, i, lo, hiV⟩] := by unfold edgeAt; rw [if_pos ⟨hhv, hne⟩, hlo, hhi]
          have HStep := Lib.hid (show (List.range (i + 1)).flatMap (edgeAt s here) = (List.range i).flatMap (edgeAt s here) ++ [⟨s.id, i, lo, hiV⟩] by rw [hstep, he])
          obtain ⟨E, hE⟩ : ∃ E, (List.range i).flatMap (edgeAt s here) = E := ⟨_, rfl⟩
          rw [hE] at HO HStep hlen hAc ⊢
          have g3 : ((i : Int) != (s.id : Int)) = true := by simp; omega
          have KP := Lib.hid (fun w' (hb : Below wr.heap.size wr w') => show w'.cell? ⟨g, 0, none⟩ = some (.int .i64 s.id) ∧ w'.cell? ⟨b1, off1 + i * 2, none⟩ = some (.int .i64 lo) ∧ w'.cell? ⟨b1, off1 + i * 2 + 1, none⟩ = some (.int .i64 hiV) from ⟨(hb.cell (p := ⟨g, 0, none⟩) kl2).trans y0, (hb.cell (p := ⟨b1, off1 + i * 2, none⟩) lb1).trans x0, (hb.cell (p := ⟨b1, off1 + i * 2 + 1, none⟩) lb1).trans x1⟩)
          have HLow := Lib.hid (fun q (e : (Value.slice AO E.length cO).ownBlock = some q) => (HO.out.lt q e).1)
          have KG := Lib.hid (fun W W' (hb : Below wr.heap.size wr W) (hg : W.grownBy W' (Value.slice AO E.length cO).ownBlock) => show W'.cell? ⟨g, 0, none⟩ = some (.int .i64 s.id) ∧ W'.cell? ⟨b1, off1 + i * 2, none⟩ = some (.int .i64 lo) ∧ W'.cell? ⟨b1, off1 + i * 2 + 1, none⟩ = some (.int .i64 hiV) from by
            obtain ⟨k1, k2, k3⟩ := KP.out W hb
            have n1 : some g ≠ (Value.slice AO E.length cO).ownBlock := fun e => by have := HLow.out _ e.symm; omega
            have n2 : some b1 ≠ (Value.slice AO E.length cO).ownBlock := fun e => by have := HLow.out _ e.symm; omega
            exact ⟨hg.cell k1 n1, hg.cell k2 n2, hg.cell k3 n2⟩)
          clear hstep he hE hO hB hlo hhi hhv hne hsz hbz hc1 hc2
          go_wp2_with fail
          refine wp_region_held_drew (S := fun w9 => w9.cell? ⟨g, 0, none⟩ = some (.int .i64 s.id) ∧ w9.cell? ⟨b1, off1 + i * 2, none⟩ = some (.int .i64 lo) ∧ w9.cell? ⟨b1, off1 + i * 2 + 1, none⟩ = some (.int .i64 hiV)) (by kernel_rfl) (⟨y0, x0, x1⟩) (fun hHeld => ?_)
          refine take_d (i := 0) (v := (.slice AO E.length cO)) (d := some 38) rfl (by kernel_rfl) (by kernel_rfl) (by kernel_rfl) (by kernel_rfl) (fun _ _ _ h => h) (Or.inl ⟨by kernel_rfl, fun w9 hw9 => by (go_simp)⟩) hHeld ?_
          try simp only [Act.put, List.setIfInBounds_toArray, List.set_cons_zero, List.set_cons_succ]
          refine take_d (i := 1) (v := (.pointer (some ⟨g, 0, none⟩))) (d := some 39) rfl (by kernel_rfl) (by kernel_rfl) (by kernel_rfl) (by kernel_rfl) (fun _ _ _ h => h) (Or.inl ⟨by kernel_rfl, fun w9 hw9 => by (go_simp)⟩) hHeld ?_
          try simp only [Act.put, List.setIfInBounds_toArray, List.set_cons_zero, List.set_cons_succ]
          refine take_d (i := 2) (v := (.pointer (some ⟨g, 0, none⟩))) (d := some 40) rfl (by kernel_rfl) (by kernel_rfl) (by kernel_rfl) (by kernel_rfl) (fun _ _ _ h => h) (Or.inl ⟨by kernel_rfl, fun w9 hw9 => by (go_simp)⟩) hHeld ?_
          try simp only [Act.put, List.setIfInBounds_toArray, List.set_cons_zero, List.set_cons_succ]
          refine take_d (i := 3) (v := (.pointer (some ⟨g, 0, none⟩))) (d := some 41) rfl (by kernel_rfl) (by kernel_rfl) (by kernel_rfl) (by kernel_rfl) (fun _ _ _ h => h) (Or.inl ⟨by kernel_rfl, fun w9 hw9 => by (go_simp)⟩) hHeld ?_
          try simp only [Act.put, List.setIfInBounds_toArray, List.set_cons_zero, List.set_cons_succ]
          refine take_d (i := 4) (v := (.int .i64 s.id)) (d := some 42) rfl (by kernel_rfl) (by kernel_rfl) (by kernel_rfl) (by kernel_rfl) (fun _ _ _ h => h) (Or.inl ⟨by kernel_rfl, fun w9 hw9 => by (obtain ⟨a0, a1, a2⟩ := hw9; go_simp)⟩) hHeld ?_
          try simp only [Act.put, List.setIfInBounds_toArray, List.set_cons_zero, List.set_cons_succ]
          refine take_d (i := 5) (v := (.int .i64 i)) (d := some 43) rfl (by kernel_rfl) (by kernel_rfl) (by kernel_rfl) (by kernel_rfl) (fun _ _ _ h => h) (Or.inl ⟨by kernel_rfl, fun w9 hw9 => by (go_simp)⟩) hHeld ?_
          try simp only [Act.put, List.setIfInBounds_toArray, List.set_cons_zero, List.set_cons_succ]
          refine take_d (i := 6) (v := (.slice (some ⟨b1, off1, none⟩) n k0)) (d := some 44) rfl (by kernel_rfl) (by kernel_rfl) (by kernel_rfl) (by kernel_rfl) (fun _ _ _ h => h) (Or.inl ⟨by kernel_rfl, fun w9 hw9 => by (go_simp)⟩) hHeld ?_
          try simp only [Act.put, List.setIfInBounds_toArray, List.set_cons_zero, List.set_cons_succ]
          refine take_d (i := 7) (v := (.int .i64 i)) (d := some 45) rfl (by kernel_rfl) (by kernel_rfl) (by kernel_rfl) (by kernel_rfl) (fun _ _ _ h => h) (Or.inl ⟨by kernel_rfl, fun w9 hw9 => by (go_simp)⟩) hHeld ?_
          try simp only [Act.put, List.setIfInBounds_toArray, List.set_cons_zero, List.set_cons_succ]
          refine take_d (i := 8) (v := (.pointer (some ⟨b1, off1 + i * 2, none⟩))) (d := some 46) rfl (by kernel_rfl) (by kernel_rfl) (by kernel_rfl) (by kernel_rfl) (fun _ _ _ h => h) (Or.inl ⟨by kernel_rfl, fun w9 hw9 => by (go_simp)⟩) hHeld ?_
          try simp only [Act.put, List.setIfInBounds_toArray, List.set_cons_zero, List.set_cons_succ]
          refine take_d (i := 9) (v := (.agg #[.int .i64 lo, .int .i64 hiV])) (d := some 47) rfl (by kernel_rfl) (by kernel_rfl) (by kernel_rfl) (by kernel_rfl) (fun _ _ _ h => h) (Or.inl ⟨by kernel_rfl, fun w9 hw9 => by (obtain ⟨a0, a1, a2⟩ := hw9; go_simp)⟩) hHeld ?_
          try simp only [Act.put, List.setIfInBounds_toArray, List.set_cons_zero, List.set_cons_succ]
          refine take_d (i := 10) (v := (.agg #[.int .i64 s.id, .int .i64 i, .int .i64 lo, .int .i64 hiV])) (d := some 48) rfl (by kernel_rfl) (by kernel_rfl) (by kernel_rfl) (by kernel_rfl) (fun _ _ _ h => h) (Or.inl ⟨by kernel_rfl, fun w9 hw9 => by (go_simp)⟩) hHeld ?_
          try simp only [Act.put, List.setIfInBounds_toArray, List.set_cons_zero, List.set_cons_succ]
          try simp only [Act.put, List.setIfInBounds_toArray, List.set_cons_zero, List.set_cons_succ]
          refine wpAnyH_ready (rs := [11]) (by kernel_rfl) (by simp) ?_; refine AllReadyH.cons rfl (fun K hK => ?_) AllReadyH.nil
          go_simp
          have hAl : Below wr.heap.size wr (wr.drew.alloc (.cells (REdge.cells ⟨s.id, i, lo, hiV⟩).toArray 108)) := (((Below.refl _ wr).drew).alloc (by simp) _)
          refine hK.out _ _ (KP.out _ hAl) (fun hHeld2 => ?_); clear hK K hHeld; have hHeld := hHeld2; clear hHeld2
          try simp only [Act.put, List.setIfInBounds_toArray, List.set_cons_zero, List.set_cons_succ]
          refine wpAnyH_ready (rs := [12]) (by kernel_rfl) (by simp) ?_; refine AllReadyH.cons rfl (fun K hK => ?_) AllReadyH.nil
          refine step_append_lies _ rfl _ _ 47 rfl w1.heap.size 108 i0 (.agg #[.int .i64 0, .int .i64 0, .int .i64 0, .int .i64 0]) 4 32 Tryd.underlying47 hi hz0 hz1 hz2 rfl (by decide) (.slice AO E.length cO) E.length (E.flatMap REdge.cells) (by simp [Act.eval, Act.put]) ((HO.out).alloc _) ⟨wr.heap.size, 0, none⟩ 1 1 (REdge.cells ⟨s.id, i, lo, hiV⟩) (by simp [Act.eval, Act.put]) rfl (by exact cell_newAt wr.drew (REdge.cells ⟨s.id, i, lo, hiV⟩) _ _ rfl) (edge_oneN _) (by decide) (by unfold maxLen; omega) (by omega) (by simp; omega) _ rfl ?_
          intro gg cap w5 ho5 hg5 hgg hlt5
          refine hK.out _ _ (KG.out _ _ hAl hg5) (fun hHeld2 => ?_); clear hK K hHeld; have hHeld := hHeld2; clear hHeld2
          change wpAnyH _ _ _ _ _ _ _ (Act.put _ (some 50) _) _
          try simp only [Act.put, List.setIfInBounds_toArray, List.set_cons_zero, List.set_cons_succ]
          refine take_d (i := 13) (v := (.slice (some ⟨gg, 0, none⟩) (E.length + 1) cap)) (d := some 9) rfl (by kernel_rfl) (by kernel_rfl) (by kernel_rfl) (by kernel_rfl) (fun _ _ _ h => h) (Or.inl ⟨by kernel_rfl, fun w9 hw9 => by (go_simp)⟩) hHeld ?_
          try simp only [Act.put, List.setIfInBounds_toArray, List.set_cons_zero, List.set_cons_succ]
          refine wpAnyH_done (by kernel_rfl) ?_ _
          try simp only [Act.put, List.setIfInBounds_toArray, List.set_cons_zero, List.set_cons_succ]
          have HB5 := Lib.hid (show Below w1.heap.size w1 w5 from (HBr.out.trans (hAl.mono hzr)).grown hg5 (by simp; omega) (fun k hk => HLow.out k hk))
          have HO5 := Lib.hid (show w5.ownsRow w1.heap.size 108 4 (.slice (some ⟨gg, 0, none⟩) (E.length + 1) cap) ((List.range (i + 1)).flatMap (edgeAt s here)).length (((List.range (i + 1)).flatMap (edgeAt s here)).flatMap REdge.cells) from by rw [HStep.out]; exact own_snoc REdge.cells ho5)
          clear hAl ho5 hg5 hgg KP KG HO HLow hHeld x0 x1 x2 y0
          go_wp2_with fail
          go_roundw
          case rel => exact ⟨i + 1, by go_num, by omega, HO5.out, HB5.out⟩
          case measure => go_light; simp [intOf]; omega
        · have he : edgeAt s here i = [] := by unfold edgeAt; rw [if_neg (by rw [hhv]; exact hq)]
          have HStep := Lib.hid (show (List.range (i + 1)).flatMap (edgeAt s here) = (List.range i).flatMap (edgeAt s here) by rw [hstep, he, List.append_nil])
          have hd : hv = false ∨ (hv = true ∧ ((i : Int) != (s.id : Int)) = false) := by
            cases hv
            · exact .inl rfl
            · right; refine ⟨rfl, ?_⟩; simp; by_cases e : i = s.id; omega; exact absurd ⟨rfl, e⟩ hq
          have HO5 := Lib.hid (show wr.ownsRow w1.heap.size 108 4 (.slice AO ((List.range i).flatMap (edgeAt s here)).length cO) ((List.range (i + 1)).flatMap (edgeAt s here)).length (((List.range (i + 1)).flatMap (edgeAt s here)).flatMap REdge.cells) from by rw [HStep.out]; exact HO.out)
          clear hstep he hO hB hlo hhi hhv hq hsz hbz hc1 hc2 HStep
          rcases hd with rfl | ⟨rfl, g3⟩
          all_goals
            go_wp2_with fail
            go_roundw
            case rel => exact ⟨i + 1, by go_num, by omega, HO5.out, HBr.out⟩
            case measure => go_light; simp [intOf]; omega
      · obtain rfl : i = n := by omega
        have hE : (List.range i).flatMap (edgeAt s here) = tellE s here := by unfold tellE; rw [if_pos HC.out, HN.out]
        rw [hE] at hO HO ⊢
        obtain ⟨A9, n9, c9, e9, hI9⟩ := own_recs REdge.cells REdge.ok 4 (fun _ => rfl) hO HEok.out
        have HI9 := Lib.hid hI9
        have HB9 := Lib.hid (HB1.out.trans (hB.mono HB1.out.size))
        rw [e9]
        clear hO HO hB hI9 hE e9 hlen hAc hcm y0
        go_wp2_with fail
        refine bodyPost_ret (v := .tuple #[.slice A9 n9 c9, .nilIface]) (by simp [results, Tryd.results37, go_sem]) rfl ?_
        exact ⟨_, _, _, by rw [HC.out]; rfl, HI9.out, HB9.out⟩
  · have HT := Lib.hid (show tellE s here = [] by unfold tellE; rw [if_neg hc])
    have HB1 := Lib.hid hb1
    obtain ⟨c, hcc⟩ : ∃ c, tellC s here = c := ⟨_, rfl⟩
    rw [hcc] at hc ⊢
    have e1 : (c != 0) = true := by simp; exact hc
    rw [errV_ne hc]
    have HCC := Lib.hid hcc
    clear hS hH hb1 CS hcc
    go_wp2_with fail
    refine bodyPost_ret (v := .tuple #[.slice none 0 0, .iface 75 (.int .i64 c)]) (by simp [results, Tryd.results37, go_sem]) rfl ?_
    exact ⟨none, 0, 0, by rw [HCC.out, errV_ne hc], by rw [HT.out]; exact recs_nil _ _ _ _, HB1.out⟩
end Go.Proofs.YtmficdfihogffaaDoor

/- A net in memory: its world, its nodes. -/
namespace Go.Proofs.YtmficdfihogffaaDoor
open Go.RowKit
set_option linter.unusedVariables false
set_option linter.unusedSimpArgs false
/-- where a net lies. -/
structure NAd where
  N : Nat
  g : Nat
  B : Nat
  q : Nat
  n : Nat
  c : Nat
  gi : Nat → Nat
  mb : Nat → Nat
structure NAd.Fine (a : NAd) : Prop where
  BN : a.B ≤ a.N
  Bq : a.B ≤ a.q
  qN : a.q ≠ a.N
  Bg : ∀ i, i < a.n → a.B ≤ a.gi i ∧ a.B ≤ a.mb i ∧ a.gi i ≠ a.N ∧ a.mb i ≠ a.N ∧ a.gi i ≠ a.q ∧ a.mb i ≠ a.q
  dd : ∀ i j, i < a.n → j < a.n → i ≠ j → a.gi i ≠ a.gi j ∧ a.gi i ≠ a.mb j ∧ a.mb i ≠ a.mb j
structure NetAt (w : World) (a : NAd) (ss rs : List Int) (p t : Int) (uv : Value) (us : List RLetter) (K : Nat) (S : Nat → NSt) : Prop where
  net : Blk w a.N 71 #[.pointer (some ⟨a.g, 0, none⟩), .slice (some ⟨a.q, 0, none⟩) a.n a.c]
  W : WorldU w a.g a.B a.n ss rs t uv us
  row : ∀ i, i < a.n → w.cell? ⟨a.q, i, none⟩ = some (.pointer (some ⟨a.gi i, 0, none⟩))
  ql : a.q < w.heap.size
  nc : a.n ≤ a.c ∧ a.c ≤ maxLen
  nd : ∀ i, i < a.n → NodeAt w (a.gi i) (a.mb i) K (S i)
  sN : ∀ i, i < a.n → (S i).N = a.n ∧ (S i).id = i ∧ (S i).p = p
  ad : a.Fine
  du : ∀ u, uv.ownBlock = some u → u ≠ a.N ∧ u ≠ a.q ∧ ∀ i, i < a.n → u ≠ a.gi i ∧ u ≠ a.mb i
  has : ∀ L ∈ us, LHas a.n L
/-- what a net's acts may turn. -/
def NetMine (a : NAd) (uv : Value) (k : Nat) : Prop := k = a.g ∨ uv.ownBlock = some k ∨ ∃ i, i < a.n ∧ (k = a.gi i ∨ k = a.mb i)
def updS (S : Nat → NSt) (d : Nat) (s : NSt) (i : Nat) : NSt := if i = d then s else S i
variable {w w' : World} {a : NAd} {ss rs : List Int} {p t t' : Int} {uv uv' : Value} {us us' : List RLetter} {K K' : Nat} {S : Nat → NSt}
theorem NetAt.below (h : NetAt w a ss rs p t uv us K S) (hb : Below w.heap.size w w') : NetAt w' a ss rs p t uv us K S :=
  ⟨h.net.below hb h.net.lt, h.W.below hb, fun i hi => (hb.cell (p := ⟨a.q, i, none⟩) h.ql).trans (h.row i hi), Nat.lt_of_lt_of_le h.ql hb.size, h.nc, fun i hi => (h.nd i hi).below hb, h.sN, h.ad, h.du, h.has⟩
theorem NetAt.mono (h : NetAt w a ss rs p t uv us K S) (hK : K ≤ K') : NetAt w a ss rs p t uv us K' S :=
  ⟨h.net, h.W, h.row, h.ql, h.nc, fun i hi => (h.nd i hi).mono hK, h.sN, h.ad, h.du, h.has⟩
theorem NetAt.g_ne (h : NetAt w a ss rs p t uv us K S) : a.g < a.B := h.W.gB
/-- an act of the world. -/
theorem NetAt.world (h : NetAt w a ss rs p t uv us K S) (hW : WorldU w' a.g a.B a.n ss rs t' uv' us') (hK : Kept (Mine a.g uv) w w') (hq : ∀ q, uv'.ownBlock = some q → uv.ownBlock = some q ∨ w.heap.size ≤ q) (hu : ∀ L ∈ us', LHas a.n L) : NetAt w' a ss rs p t' uv' us' K S := by
  have gB := h.W.gB
  have ad := h.ad
  have hn : ∀ k, (k = a.N ∨ k = a.q ∨ ∃ i, i < a.n ∧ (k = a.gi i ∨ k = a.mb i)) → ¬ Mine a.g uv k := by
    intro k hk e
    have hk2 : a.B ≤ k := by
      rcases hk with rfl | rfl | ⟨i, hi, rfl | rfl⟩
      · exact ad.BN
      · exact ad.Bq
      · exact (ad.Bg i hi).1
      · exact (ad.Bg i hi).2.1
    rcases e with e | e
    · omega
    · obtain ⟨d1, d2, d3⟩ := h.du k e
      rcases hk with hk | hk | ⟨i, hi, hk | hk⟩
      · exact d1 hk
      · exact d2 hk
      · exact (d3 i hi).1 hk
      · exact (d3 i hi).2 hk
  refine ⟨(hK.block a.N h.net.lt (hn _ (.inl rfl))).trans h.net, hW, fun i hi => (World.cell?_of_block (hK.block a.q h.ql (hn _ (.inr (.inl rfl))))).trans (h.row i hi), Nat.lt_of_lt_of_le h.ql hK.size, h.nc, fun i hi => (h.nd i hi).other hK (hn _ (.inr (.inr ⟨i, hi, .inl rfl⟩))) (hn _ (.inr (.inr ⟨i, hi, .inr rfl⟩))), h.sN, h.ad, fun u e => ?_, hu⟩
  rcases hq u e with h1 | h1
  · exact h.du u h1
  · have := h.net.lt
    have := h.ql
    refine ⟨by omega, by omega, fun i hi => ⟨?_, ?_⟩⟩
    · have := (h.nd i hi).blk.lt; omega
    · have := (h.nd i hi).mp.lt; omega
/-- a node that hears. -/
theorem NetAt.hear {d : Nat} {s' : NSt} (h : NetAt w a ss rs p t uv us K S) (hd : d < a.n) (hN : NodeAt w' (a.gi d) (a.mb d) K' s') (hKK : K ≤ K') (hK : Kept (NMine (a.gi d) (a.mb d)) w w') (hs : s'.N = a.n ∧ s'.id = d ∧ s'.p = p) : NetAt w' a ss rs p t uv us K' (updS S d s') := by
  have ad := h.ad
  obtain ⟨b1, b2, b3, b4, b5, b6⟩ := ad.Bg d hd
  refine ⟨(hK.block a.N h.net.lt (fun e => by rcases e with e | e <;> omega)).trans h.net, h.W.other hK (fun k e => ?_), fun i hi => (World.cell?_of_block (hK.block a.q h.ql (fun e => by rcases e with e | e <;> omega))).trans (h.row i hi), Nat.lt_of_lt_of_le h.ql hK.size, h.nc, fun i hi => ?_, fun i hi => ?_, h.ad, h.du, h.has⟩
  · refine ⟨by rcases e with e | e <;> omega, fun e2 => ?_⟩
    obtain ⟨_, _, d3⟩ := h.du k e2
    rcases e with e | e
    · exact (d3 d hd).1 e
    · exact (d3 d hd).2 e
  · unfold updS
    by_cases c : i = d
    · subst c; rw [if_pos rfl]; exact hN
    · rw [if_neg c]
      obtain ⟨e1, e2, e3⟩ := ad.dd i d hi hd c
      obtain ⟨f1, f2, f3⟩ := ad.dd d i hd hi (fun e => c e.symm)
      exact ((h.nd i hi).mono hKK).other hK (fun e => by rcases e with e | e; exact e1 e; exact e2 e) (fun e => by rcases e with e | e; exact f2 e.symm; exact e3 e)
  · unfold updS
    by_cases c : i = d
    · subst c; rw [if_pos rfl]; exact hs
    · rw [if_neg c]; exact h.sN i hi
theorem Hears.keeps {s s' : NSt} {L : RLetter} {here : Int} {b : Bool} {c : Int} (h : Hears s L here b c s') : s'.N = s.N ∧ s'.id = s.id ∧ s'.p = s.p := by
  cases h <;> exact ⟨rfl, rfl, rfl⟩
/-- a net's act: its fault, and what is so then. -/
inductive NAct (n : Nat) (ss rs : List Int) (t : Int) (us : List RLetter) (S : Nat → NSt) : RAct → Int → Int → List RLetter → (Nat → NSt) → Prop
  | quiet (A : RAct) (c t' : Int) (us' : List RLetter) (h : WAct n ss rs t us A c none t' us') : NAct n ss rs t us S A c t' us' S
  | bad (A : RAct) (t' : Int) (us' : List RLetter) (L : RLetter) (d : Nat) (s r : Int) (b : Bool) (c : Int) (s' : NSt) (h : WAct n ss rs t us A 0 (some L) t' us') (hd : L.dst = (d : Int)) (hs : ss[d]? = some s) (hr : rs[d]? = some r) (hh : Hears (S d) L (readV s r t') b c s') (hc : c ≠ 0) : NAct n ss rs t us S A c t' us' (updS S d s')
  | told (A : RAct) (t' : Int) (us' : List RLetter) (L : RLetter) (d : Nat) (s r : Int) (b : Bool) (s' : NSt) (h : WAct n ss rs t us A 0 (some L) t' us') (hd : L.dst = (d : Int)) (hs : ss[d]? = some s) (hr : rs[d]? = some r) (hh : Hears (S d) L (readV s r t') b 0 s') (ha : L.answer = true) : NAct n ss rs t us S A 0 t' us' (updS S d s')
  | asked (A : RAct) (t' : Int) (us' us'' : List RLetter) (L : RLetter) (d : Nat) (s r : Int) (b : Bool) (c : Int) (s' : NSt) (h : WAct n ss rs t us A 0 (some L) t' us') (hd : L.dst = (d : Int)) (hs : ss[d]? = some s) (hr : rs[d]? = some r) (hh : Hears (S d) L (readV s r t') b 0 s') (ha : L.answer = false) (hw : WAns n ss rs t' us' L c us'') : NAct n ss rs t us S A c t' us'' (updS S d s')
theorem nact_total (n : Nat) (ss rs : List Int) (t : Int) (us : List RLetter) (S : Nat → NSt) (A : RAct) (ls : ss.length = n) (lr : rs.length = n) (hu : ∀ L ∈ us, LHas n L) : ∃ c t' us' S', NAct n ss rs t us S A c t' us' S' := by
  obtain ⟨c, got, t', us', h⟩ := act_total n ss rs t us A ls lr
  cases got with
  | none => exact ⟨_, _, _, _, .quiet A c t' us' h⟩
  | some L =>
    obtain ⟨_, hg⟩ := h.has ls hu
    obtain ⟨⟨_, hL⟩, rfl, _, _⟩ := hg L rfl
    obtain ⟨d, hd⟩ : ∃ d : Nat, L.dst = (d : Int) := ⟨L.dst.toNat, by omega⟩
    have hdn : d < n := by omega
    have hs : ss[d]? = some ss[d] := List.getElem?_eq_getElem (by omega)
    have hr : rs[d]? = some rs[d] := List.getElem?_eq_getElem (by omega)
    obtain ⟨b, c, s', hh⟩ := hears_total (S d) L (readV ss[d] rs[d] t')
    by_cases hc : c = 0
    · subst hc
      cases ha : L.answer
      · obtain ⟨c2, us'', hw⟩ := ans_total n ss rs t' us' L ls lr
        exact ⟨_, _, _, _, .asked A t' us' us'' L d _ _ b c2 s' h hd hs hr hh ha hw⟩
      · exact ⟨_, _, _, _, .told A t' us' L d _ _ b s' h hd hs hr hh ha⟩
    · exact ⟨_, _, _, _, .bad A t' us' L d _ _ b c s' h hd hs hr hh hc⟩
end Go.Proofs.YtmficdfihogffaaDoor

/- Two rows of a call's own beside a net. -/
namespace Go.Proofs.YtmficdfihogffaaDoor
open Go.RowKit
set_option linter.unusedVariables false
set_option linter.unusedSimpArgs false
theorem own_keptP {P : Nat → Prop} {w w' : World} {B : Nat} {T : TypeId} {k n : Nat} {v : Value} {xs : List Value} (h : w.ownsRow B T k v n xs) (hK : Kept P w w') (hP : ∀ q, v.ownBlock = some q → ¬ P q) : w'.ownsRow B T k v n xs := by
  have hlt := h.lt
  refine ⟨h.1, ?_⟩
  rcases h.2 with e | ⟨g, cap, cur, rfl, hB, hg, hn, hm, hs, ht⟩
  · exact .inl e
  · exact .inr ⟨g, cap, cur, rfl, hB, (hK.block g (hlt g rfl).2 (hP g rfl)).trans hg, hn, hm, hs, ht⟩
/-- where a net's fixed blocks lie. -/
structure FixB (a : NAd) (C : Nat) : Prop where
  N : a.N < C
  q : a.q < C
  B : a.B ≤ C
  g : a.g < C
  n : ∀ i, i < a.n → a.gi i < C ∧ a.mb i < C
variable {w w' : World} {a : NAd} {ss rs : List Int} {p t t' : Int} {uv uv' : Value} {us us' : List RLetter} {K K' : Nat} {S : Nat → NSt}
theorem NetAt.fix (h : NetAt w a ss rs p t uv us K S) : FixB a w.heap.size :=
  ⟨h.net.lt, h.ql, h.W.Bw, Nat.lt_of_lt_of_le h.W.gB h.W.Bw, fun i hi => ⟨(h.nd i hi).blk.lt, (h.nd i hi).mp.lt⟩⟩
theorem NetAt.kept {P : Nat → Prop} {C : Nat} (h : NetAt w a ss rs p t uv us K S) (hK : Kept P w w') (f : FixB a C) (hP : ∀ q, P q → C ≤ q ∧ uv.ownBlock ≠ some q) : NetAt w' a ss rs p t uv us K S := by
  have hn : ∀ q, q < C → ¬ P q := fun q hq e => by have := (hP q e).1; omega
  exact ⟨(hK.block a.N h.net.lt (hn _ f.N)).trans h.net, h.W.other hK (fun k e => ⟨by have := (hP k e).1; have := f.B; omega, (hP k e).2⟩), fun i hi => (World.cell?_of_block (hK.block a.q h.ql (hn _ f.q))).trans (h.row i hi), Nat.lt_of_lt_of_le h.ql hK.size, h.nc, fun i hi => (h.nd i hi).other hK (hn _ (f.n i hi).1) (hn _ (f.n i hi).2), h.sN, h.ad, h.du, h.has⟩
theorem grown_kept {w w' : World} {row : Option Nat} (hg : w.grownBy w' row) : Kept (fun k => row = some k) w w' :=
  (Kept.refl _ w).grown hg (fun k e => .inl e)
/-- a row of the call's own grows: the net stays. -/
theorem NetAt.grown {row : Option Nat} (h : NetAt w a ss rs p t uv us K S) (hg : w.grownBy w' row) {B : Nat} (f : FixB a B) (hB : ∀ q, row = some q → B ≤ q ∧ uv.ownBlock ≠ some q) : NetAt w' a ss rs p t uv us K S :=
  h.kept (grown_kept hg) f hB
end Go.Proofs.YtmficdfihogffaaDoor

/- Package net: New, walked. -/
namespace Go.Proofs.YtmficdfihogffaaDoor
open Go.RowKit
set_option linter.unusedVariables false
set_option linter.unusedSimpArgs false
theorem infoPN : (Tryd.prog.info? 72).map (fun i => (i.zero, i.size, i.bytes)) = some (some (.pointer none), 1, 8) := by kernel_rfl
/-- the first i nodes of a net that is being made. -/
structure Making (w : World) (N n i : Nat) (p : Int) (g : Nat) (v : Value) (gi mb : Nat → Nat) : Prop where
  net : Blk w N 71 #[.pointer (some ⟨g, 0, none⟩), v]
  row : w.ownsRow (N + 1) 72 1 v i ((List.range i).map fun j => .pointer (some ⟨gi j, 0, none⟩))
  nd : ∀ j, j < i → NodeAt w (gi j) (mb j) 0 (NSt.start n j p) ∧ N < gi j ∧ N < mb j
  du : ∀ u, v.ownBlock = some u → ∀ j, j < i → u ≠ gi j ∧ u ≠ mb j
  dd : ∀ j k, j < i → k < i → j ≠ k → gi j ≠ gi k ∧ gi j ≠ mb k ∧ mb j ≠ mb k
theorem map_congr_range {f g : Nat → Value} {i : Nat} (h : ∀ j, j < i → f j = g j) : (List.range i).map f = (List.range i).map g :=
  List.map_congr_left fun j hj => h j (List.mem_range.1 hj)
theorem Making.step {w w2 w5 : World} {N n i gg cap ng nm : Nat} {p : Int} {g : Nat} {v : Value} {gi mb : Nat → Nat} (h : Making w N n i p g v gi mb) (hb : Below w.heap.size w w2) (hn : NodeAt w2 ng nm 0 (NSt.start n i p)) (h1 : w.heap.size ≤ ng) (h2 : w.heap.size ≤ nm)
    (hg5 : (w2.alloc (.cells #[.pointer (some ⟨ng, 0, none⟩)] 72)).grownBy w5 v.ownBlock) (hgg : v.ownBlock = some gg ∨ gg = (w2.alloc (.cells #[.pointer (some ⟨ng, 0, none⟩)] 72)).heap.size)
    (ho5 : w5.ownsRow (N + 1) 72 1 (.slice (some ⟨gg, 0, none⟩) (i + 1) cap) (i + 1) (((List.range i).map fun j => .pointer (some ⟨gi j, 0, none⟩)) ++ [.pointer (some ⟨ng, 0, none⟩)])) :
    Making (w5.setCell ⟨N, 1, none⟩ (.slice (some ⟨gg, 0, none⟩) (i + 1) cap)) N n (i + 1) p g (.slice (some ⟨gg, 0, none⟩) (i + 1) cap) (fun j => if j = i then ng else gi j) (fun j => if j = i then nm else mb j) := by
  have hNl := h.net.lt
  have hs2 := hb.size
  have hlt : ∀ u, v.ownBlock = some u → N + 1 ≤ u ∧ u < w.heap.size := h.row.lt
  have hNu : some N ≠ v.ownBlock := fun e => by have := (hlt N e.symm).1; omega
  have hgs : gg = w2.heap.size + 1 ∨ v.ownBlock = some gg := by
    rcases hgg with e | e
    · exact .inr e
    · left; simpa using e
  have hngl := hn.blk.lt
  have hnml := hn.mp.lt
  have keep : ∀ k, k < w2.heap.size → some k ≠ v.ownBlock → w5.heap[k]? = w2.heap[k]? := fun k hk hne => (hg5.block k (by simp; omega) hne).trans (Below.heap_alloc w2 _ k hk)
  have hng : some ng ≠ v.ownBlock := fun e => by have := (hlt ng e.symm).2; omega
  have hnm : some nm ≠ v.ownBlock := fun e => by have := (hlt nm e.symm).2; omega
  refine ⟨?_, ?_, fun j hj => ?_, fun u e j hj => ?_, fun j k hj hk hne => ?_⟩
  · have hN5 : Blk w5 N 71 #[.pointer (some ⟨g, 0, none⟩), v] := (keep N (by omega) hNu).trans (h.net.below hb hNl)
    exact (hN5.set 1 _).conv rfl
  · have e : ((List.range (i + 1)).map fun j => Value.pointer (some ⟨if j = i then ng else gi j, 0, none⟩)) = ((List.range i).map fun j => .pointer (some ⟨gi j, 0, none⟩)) ++ [.pointer (some ⟨ng, 0, none⟩)] := by
      rw [List.range_succ, List.map_append]
      congr 1
      · exact map_congr_range fun j hj => by rw [if_neg (by omega)]
      · simp
    rw [e]
    exact own_touched ho5 ((Touched.refl N w5).set 1 _) (by omega)
  · by_cases c : j = i
    · subst c
      simp only [if_pos]
      refine ⟨⟨?_, ?_, hn.ne, hn.ok⟩, by omega, by omega⟩
      · exact Blk.far (g := ng) ((keep ng hngl hng).trans hn.blk) (p := ⟨N, 1, none⟩) (by show ng ≠ N; omega) _
      · exact (hn.mp.block (keep nm hnml hnm)).far (by show nm ≠ N; omega) _
    · simp only [if_neg c]
      obtain ⟨hj1, hj2, hj3⟩ := h.nd j (by omega)
      have hg := hj1.blk.lt
      have hm := hj1.mp.lt
      have d := fun (u : Nat) (e : v.ownBlock = some u) => h.du u e j (by omega)
      have hj4 := hj1.below hb
      refine ⟨⟨?_, ?_, hj1.ne, hj1.ok⟩, hj2, hj3⟩
      · exact Blk.far (g := gi j) ((keep _ (by omega) (fun e => (d _ e.symm).1 rfl)).trans hj4.blk) (p := ⟨N, 1, none⟩) (by show gi j ≠ N; omega) _
      · exact (hj4.mp.block (keep _ (by omega) (fun e => (d _ e.symm).2 rfl))).far (by show mb j ≠ N; omega) _
  · have eu : gg = u := by simpa [Value.ownBlock] using e
    subst eu
    by_cases c : j = i
    · subst c
      simp only [if_pos]
      rcases hgs with e | e
      · omega
      · have := (hlt gg e).2; omega
    · simp only [if_neg c]
      obtain ⟨hj1, _, _⟩ := h.nd j (by omega)
      have hg := hj1.blk.lt
      have hm := hj1.mp.lt
      rcases hgs with e | e
      · omega
      · exact h.du _ e j (by omega)
  · by_cases c : j = i
    · subst c
      obtain ⟨hk1, _, _⟩ := h.nd k (by omega)
      have hg := hk1.blk.lt
      have hm := hk1.mp.lt
      simp only [if_pos, if_neg (fun e => hne (Eq.symm e) : ¬ k = j)]
      omega
    · by_cases c2 : k = i
      · subst c2
        obtain ⟨hk1, _, _⟩ := h.nd j (by omega)
        have hg := hk1.blk.lt
        have hm := hk1.mp.lt
        simp only [if_pos, if_neg c]
        omega
      · simp only [if_neg c, if_neg c2]
        exact h.dd j k (by omega) (by omega) hne
theorem Making.done {w w1 : World} {N n : Nat} {p : Int} {g B : Nat} {v : Value} {gi mb : Nat → Nat} {ss rs : List Int} (h : Making w N n n p g v gi mb) (hw : WorldU w1 g B n ss rs 0 (.slice none 0 0) []) (hN : w1.heap.size = N) (hb : Below w1.heap.size w1 w) (h1 : 1 ≤ n) : ∃ a : NAd, a.N = N ∧ a.g = g ∧ a.n = n ∧ NetAt w a ss rs p 0 (.slice none 0 0) [] 0 (fun i => NSt.start n i p) := by
  have hlow : ∀ u, v.ownBlock = some u → N + 1 ≤ u ∧ u < w.heap.size := h.row.lt
  have hc := fun {q : Nat} (hq : v.ownBlock = some q) => h.row.cells hq
  rcases h.row.2 with ⟨rfl, hn⟩ | ⟨q, cap, cur, rfl, hB, hg, hnc, hcm, hs, ht⟩
  · omega
  · have hBw := hw.Bw
    have hq := hlow q rfl
    refine ⟨⟨N, g, B, q, n, cap, gi, mb⟩, rfl, rfl, rfl, h.net, hw.below hb, fun i hi => ?_, hq.2, ⟨hnc, hcm⟩, fun i hi => (h.nd i hi).1, fun i hi => ⟨rfl, rfl, rfl⟩, ⟨by show B ≤ N; omega, by show B ≤ q; omega, by show q ≠ N; omega, fun i hi => ?_, fun i j hi hj hne => h.dd i j hi hj hne⟩, fun u e => by simp [Value.ownBlock] at e, by simp⟩
    · have hx := hc (q := q) rfl i (.pointer (some ⟨gi i, 0, none⟩)) (by rw [List.getElem?_map, List.getElem?_range hi]; rfl)
      rw [show (⟨q, 0, none⟩ : Addr).add i = ⟨q, i, none⟩ by unfold Addr.add; split <;> simp_all] at hx
      exact hx
    · obtain ⟨_, h2, h3⟩ := h.nd i hi
      have := h.du q rfl i hi
      exact ⟨by show B ≤ gi i; omega, by show B ≤ mb i; omega, by show gi i ≠ N; omega, by show mb i ≠ N; omega, this.1.symm, this.2.symm⟩
set_option maxRecDepth 100000 in
set_option maxHeartbeats 8000000 in
theorem net_New (A : Option Addr) (n c : Nat) (zs : List Int) (A2 : Option Addr) (n2 c2 : Nat) (ys : List Int) (p : Int) (w : World) (h : IsInts w A n c zs) (h2 : IsInts w A2 n2 c2 ys) (hc : newC zs ys p = 0) :
    Calls Tryd.prog 6 #[.slice A n c, .slice A2 n2 c2, .int .i64 p] w fun e w' => ∃ a : NAd, e = .returned (.tuple #[.pointer (some ⟨a.N, 0, none⟩), .nilIface]) ∧ a.n = n ∧ w.heap.size ≤ a.g ∧ NetAt w' a zs ys p 0 (.slice none 0 0) [] 0 (fun i => NSt.start n i p) ∧ Below w.heap.size w w' := by
  obtain ⟨i0, hi, hz0, hz1, hz2⟩ := info_parts infoPN
  obtain ⟨r1, r2, r3, r4, r5⟩ := newC_0 hc
  obtain ⟨p0, p1⟩ := rateB_iff.1 r1
  have hn1 : 1 ≤ n := by rw [← h.1]; exact r2
  have hn6 : n ≤ 6 := by rw [← h.1]; exact r3
  have CW := Lib.hid (world_New_u A n c zs A2 n2 c2 ys p w h h2 hc)
  clear h h2 hc r1 r2 r3 r4 r5
  go_enter Tryd.func6, Tryd.ntmps6
  go_wp2_with fail
  refine CW.out.mono ?_
  rintro e w1 ⟨g, B, rfl, hgw, hw1, hb1⟩
  have HW1 := Lib.hid hw1
  have HB1 := Lib.hid hb1
  have hz1' := hb1.size
  clear hw1 hb1 CW
  go_wp2_with fail
  obtain ⟨N, hN⟩ : ∃ N, w1.heap.size = N := ⟨_, rfl⟩
  obtain ⟨w2, hw2⟩ : ∃ W, (w1.alloc (.cells #[.pointer (some ⟨g, 0, none⟩), .slice none 0 0] 71)) = W := ⟨_, rfl⟩
  have hM : Making w2 N n 0 p g (.slice none 0 0) (fun _ => 0) (fun _ => 0) := ⟨by rw [← hw2, ← hN]; exact Blk.new w1 _ _, own_nil _ _ _ _, fun j hj => absurd hj (by omega), fun u e j hj => absurd hj (by omega), fun j k hj => absurd hj (by omega)⟩
  have hB2 : Below w1.heap.size w1 w2 := by rw [← hw2]; exact (Below.refl _ _).alloc (Nat.le_refl _) _
  have HM := Lib.hid hM
  have HB2 := Lib.hid hB2
  rw [hw2, hN]
  have HNe := Lib.hid hN
  clear hM hB2 hw2
  go_loopw [29] (fun iv wr => ∃ (i : Nat) (v : Value) (gi mb : Nat → Nat), iv = .int .i64 i ∧ i ≤ n ∧ Making wr N n i p g v gi mb ∧ Below w1.heap.size w1 wr) (fun iv _ => n - (intOf iv).toNat)
  case atStart => exact ⟨0, _, _, _, rfl, by omega, HM.out, HB2.out⟩
  case round =>
    obtain ⟨i, v, gi, mb, rfl, hi', hM, hB⟩ := hrel
    have HMi := Lib.hid hM
    have HBi := Lib.hid hB
    have hzr := hB.size
    have hNl := hM.net.lt
    by_cases d1 : i < n
    · have g1 : (i : Int) < (n : Int) := by omega
      have CN := Lib.hid (fun W => node_New n i p W hn1 hn6 d1 p0 p1)
      obtain ⟨AO, cO, rfl, hAc, hcm⟩ := own_slice hM.row
      unfold maxLen at hcm
      clear hM hB
      go_wp2_with fail
      refine (CN.out wr).mono ?_
      rintro e w3 ⟨ng, nm, rfl, k1, k2, hn3, hb3⟩
      have hNb : Blk w3 N 71 #[.pointer (some ⟨g, 0, none⟩), .slice AO i cO] := HMi.out.net.below hb3 hNl
      have y1 : w3.cell? ⟨N, 1, none⟩ = some (.slice AO i cO) := hNb.cell 1
      have yf : w3.frozen? ⟨N, 1, none⟩ = false := hNb.fz 1
      have hz3 := hb3.size
      have hN3 : N < w3.heap.size := hNb.lt
      have HN3 := Lib.hid hn3
      have HB3 := Lib.hid hb3
      have HO := Lib.hid (own_below HMi.out.row hb3)
      have hlow : ∀ u, (Value.slice AO i cO).ownBlock = some u → N + 1 ≤ u := fun u e => (HMi.out.row.lt u e).1
      have HLow := Lib.hid hlow
      clear hn3 hb3 CN hNb hlow
      go_wp2_with (at_builtin; refine wpList_append_lies _ rfl _ _ 69 rfl (N + 1) 72 i0 (.pointer none) 1 8 Tryd.underlying69 hi hz0 hz1 hz2 rfl (by decide) (.slice AO i cO) i ((List.range i).map fun j => .pointer (some ⟨gi j, 0, none⟩)) rfl ((HO.out).alloc _) ⟨w3.heap.size, 0, none⟩ 1 1 [.pointer (some ⟨ng, 0, none⟩)] rfl rfl (by exact cell_newAt w3 [.pointer (some ⟨ng, 0, none⟩)] _ _ rfl) (by intro u hu; rw [List.mem_singleton] at hu; subst hu; rfl) (by decide) (by unfold maxLen; omega) (by omega) (by simp; omega) _ rfl ?_; intro gg cap w5 ho5 hg5 hgg hlt5; have hNne : some N ≠ (Value.slice AO i cO).ownBlock := (fun e => by have := HLow.out _ e.symm; omega); have y5 : w5.cell? ⟨N, 1, none⟩ = some (.slice AO i cO) := hg5.cell ((World.cell?_alloc_lt _ _ ⟨N, 1, none⟩ hN3).trans y1) hNne; have yf5 : w5.frozen? ⟨N, 1, none⟩ = false := (World.frozen?_of_block (hg5.block N (by simp; omega) hNne)).trans ((World.frozen?_of_block (Below.heap_alloc w3 _ N hN3)).trans yf))
      have HMs := Lib.hid (HMi.out.step HB3.out HN3.out k1 k2 hg5 hgg ho5)
      have HB6 := Lib.hid (show Below w1.heap.size w1 (w5.setCell ⟨N, 1, none⟩ (.slice (some ⟨gg, 0, none⟩) (i + 1) cap)) from
        (((HBi.out.trans (HB3.out.mono hzr)).alloc (by omega) _).grown hg5 (by simp; omega) (fun k hk => by have := HLow.out k hk; have := HNe.out; omega)).setCell (by show w1.heap.size ≤ N; have := HNe.out; omega) _)
      clear ho5 hg5 hgg y5 yf5 y1 yf HO
      go_roundw
      case rel => exact ⟨i + 1, _, _, _, by go_num, by omega, HMs.out, HB6.out⟩
      case measure => go_light; simp [intOf]; omega
    · obtain rfl : i = n := by omega
      obtain ⟨a, e1, e2, e3, hA⟩ := hM.done HW1.out HNe.out hB hn1
      have HA := Lib.hid hA
      have HB9 := Lib.hid (HB1.out.trans (hB.mono hz1'))
      have E1 := Lib.hid e1
      have E2 := Lib.hid e2
      clear hM hB hA e1 e2
      go_wp2_with fail
      go_ret2
      exact ⟨a, by rw [E1.out]; rfl, e3, by rw [E2.out]; exact hgw, HA.out, HB9.out⟩
/-- clocks that are none make no net. -/
theorem net_New_no (A : Option Addr) (n c : Nat) (zs : List Int) (A2 : Option Addr) (n2 c2 : Nat) (ys : List Int) (p : Int) (w : World) (h : IsInts w A n c zs) (h2 : IsInts w A2 n2 c2 ys) (hp : i64B p) (hc : newC zs ys p ≠ 0) :
    Calls Tryd.prog 6 #[.slice A n c, .slice A2 n2 c2, .int .i64 p] w fun e w' => e = .returned (.tuple #[.pointer none, .iface 75 (.int .i64 (newC zs ys p))]) ∧ w = w' := by
  have CW := Lib.hid (world_New_no A n c zs A2 n2 c2 ys p w h h2 hp hc)
  obtain ⟨e, he⟩ : ∃ e, newC zs ys p = e := ⟨_, rfl⟩
  rw [he] at CW ⊢
  clear h h2 hc he
  go_enter Tryd.func6, Tryd.ntmps6
  go_wp2_with fail
  refine CW.out.mono ?_
  rintro e w1 ⟨rfl, rfl⟩
  go_wp2_with fail
  go_ret2
  exact ⟨rfl, rfl⟩
end Go.Proofs.YtmficdfihogffaaDoor

/- Package net: an act, walked. -/
namespace Go.Proofs.YtmficdfihogffaaDoor
open Go.RowKit
set_option linter.unusedVariables false
set_option linter.unusedSimpArgs false
/-- what an act of a net leaves. -/
def NetDone (w : World) (a : NAd) (ss rs : List Int) (p : Int) (uv : Value) (c t' : Int) (us' : List RLetter) (K' : Nat) (S' : Nat → NSt) (e : Ending) (w' : World) : Prop :=
  e = .returned (errV c) ∧ ∃ uv', NetAt w' a ss rs p t' uv' us' K' S' ∧ Kept (NetMine a uv) w w' ∧ (∀ q, uv'.ownBlock = some q → uv.ownBlock = some q ∨ w.heap.size ≤ q)
set_option maxRecDepth 100000 in
set_option maxHeartbeats 16000000 in
theorem net_Do_quiet (a : NAd) (ss rs : List Int) (p t t' : Int) (uv : Value) (us us' : List RLetter) (K : Nat) (S : Nat → NSt) (A : RAct) (c : Int) (w : World) (h : NetAt w a ss rs p t uv us K S) (hA : A.ok) (hK : K < 100000) (hw : WAct a.n ss rs t us A c none t' us') :
    Calls Tryd.prog 9 #[.pointer (some ⟨a.N, 0, none⟩), .agg #[.int .i64 A.what, .int .i64 A.a, .int .i64 A.b]] w (NetDone w a ss rs p uv c t' us' (K + 1) S) := by
  have HU := Lib.hid h
  have kN := h.net.lt
  have kg := h.W.at.lt
  have c0 := h.net.cell 0
  have c1 := h.net.cell 1
  simp at c0 c1
  have gB := h.W.gB
  have gN : a.N ≠ a.g := by have := h.ad.BN; omega
  have qg : a.q ≠ a.g := by have := h.ad.Bq; omega
  have kq := h.ql
  have HD := Lib.hid (fun W (hb : Below w.heap.size w W) => act_W hw hA a.g a.B uv W (h.W.below hb))
  have hown : ∀ u, uv.ownBlock = some u → u < w.heap.size := fun u e => (h.W.low u e).2
  have HOwn := Lib.hid hown
  have HF := Lib.hid (fun k (hk : k = a.N ∨ k = a.q) => show ¬ Mine a.g uv k from fun e => by
    rcases e with e | e
    · rcases hk with hk | hk <;> omega
    · obtain ⟨d1, d2, _⟩ := h.du k e
      rcases hk with hk | hk
      · exact d1 hk
      · exact d2 hk)
  have hhas := (hw.has h.W.ls h.has).1
  clear h hw hown
  go_enter Tryd.func9, Tryd.ntmps9
  go_wp2_with fail
  obtain ⟨W1, hW1⟩ : ∃ W, w.alloc (.cells #[.int .i64 A.what, .int .i64 A.a, .int .i64 A.b] 35) = W := ⟨_, rfl⟩
  have HB1 : Below w.heap.size w W1 := by rw [← hW1]; exact (by repeat (first | with_reducible exact Below.refl _ _ | (with_reducible refine Below.alloc ?_ (by first | omega | (simp; done) | (simp; omega)) _) | (with_reducible refine Below.setCell ?_ (by first | omega | (simp; done) | (simp; omega)) _) | (with_reducible refine Below.drew ?_) | (with_reducible refine below_drewN ?_ _) | (with_reducible assumption) | (with_reducible refine bel_step (by with_reducible assumption) ?_ (by first | omega | (simp; done) | (simp; omega)))))
  have hs1 : W1.heap.size = w.heap.size + 1 := by rw [← hW1]; simp
  have bx : Blk W1 w.heap.size 35 #[.int .i64 A.what, .int .i64 A.a, .int .i64 A.b] := by rw [← hW1]; exact Blk.new w _ _
  have x0 : W1.cell? ⟨w.heap.size, 0, none⟩ = some (.int .i64 A.what) := bx.cell 0
  have x1 : W1.cell? ⟨w.heap.size, 1, none⟩ = some (.int .i64 A.a) := bx.cell 1
  have x2 : W1.cell? ⟨w.heap.size, 2, none⟩ = some (.int .i64 A.b) := bx.cell 2
  have y0 : W1.cell? ⟨a.N, 0, none⟩ = some (.pointer (some ⟨a.g, 0, none⟩)) := (HB1.cell (p := ⟨a.N, 0, none⟩) kN).trans c0
  have kN1 : a.N < W1.heap.size := by omega
  rw [hW1]
  clear hW1
  refine wp_region_held_drew (S := fun w9 => w9.cell? ⟨w.heap.size, 0, none⟩ = some (.int .i64 A.what) ∧ w9.cell? ⟨w.heap.size, 1, none⟩ = some (.int .i64 A.a) ∧ w9.cell? ⟨w.heap.size, 2, none⟩ = some (.int .i64 A.b) ∧ w9.cell? ⟨a.N, 0, none⟩ = some (.pointer (some ⟨a.g, 0, none⟩))) (by kernel_rfl) (⟨x0, x1, x2, y0⟩) (fun hHeld => ?_)
  refine take_d (i := 0) (v := (.pointer (some ⟨a.N, 0, none⟩))) (d := some 11) rfl (by kernel_rfl) (by kernel_rfl) (by kernel_rfl) (by kernel_rfl) (fun _ _ _ h => h) (Or.inl ⟨by kernel_rfl, fun w9 hw9 => by (go_simp)⟩) hHeld ?_
  try simp only [Act.put, List.setIfInBounds_toArray, List.set_cons_zero, List.set_cons_succ]
  refine take_d (i := 1) (v := (.pointer (some ⟨a.N, 0, none⟩))) (d := some 12) rfl (by kernel_rfl) (by kernel_rfl) (by kernel_rfl) (by kernel_rfl) (fun _ _ _ h => h) (Or.inl ⟨by kernel_rfl, fun w9 hw9 => by (go_simp)⟩) hHeld ?_
  try simp only [Act.put, List.setIfInBounds_toArray, List.set_cons_zero, List.set_cons_succ]
  refine take_d (i := 2) (v := (.pointer (some ⟨a.N, 0, none⟩))) (d := some 13) rfl (by kernel_rfl) (by kernel_rfl) (by kernel_rfl) (by kernel_rfl) (fun _ _ _ h => h) (Or.inl ⟨by kernel_rfl, fun w9 hw9 => by (go_simp)⟩) hHeld ?_
  try simp only [Act.put, List.setIfInBounds_toArray, List.set_cons_zero, List.set_cons_succ]
  refine take_d (i := 3) (v := (.pointer (some ⟨a.g, 0, none⟩))) (d := some 14) rfl (by kernel_rfl) (by kernel_rfl) (by kernel_rfl) (by kernel_rfl) (fun _ _ _ h => h) (Or.inl ⟨by kernel_rfl, fun w9 hw9 => by (obtain ⟨a0, a1, a2, a3⟩ := hw9; go_simp)⟩) hHeld ?_
  try simp only [Act.put, List.setIfInBounds_toArray, List.set_cons_zero, List.set_cons_succ]
  refine take_d (i := 4) (v := (.agg #[.int .i64 A.what, .int .i64 A.a, .int .i64 A.b])) (d := some 15) rfl (by kernel_rfl) (by kernel_rfl) (by kernel_rfl) (by kernel_rfl) (fun _ _ _ h => h) (Or.inl ⟨by kernel_rfl, fun w9 hw9 => by (obtain ⟨a0, a1, a2, a3⟩ := hw9; go_simp)⟩) hHeld ?_
  try simp only [Act.put, List.setIfInBounds_toArray, List.set_cons_zero, List.set_cons_succ]
  try simp only [Act.put, List.setIfInBounds_toArray, List.set_cons_zero, List.set_cons_succ]
  refine wpAnyH_ready (rs := [5]) (by kernel_rfl) (by simp) ?_
  refine AllReadyH.cons rfl (fun K hK => ?_) AllReadyH.nil
  go_simp
  refine (HD.out _ HB1.drew).mono ?_
  rintro e w2 ⟨P, uv', rfl, hP, hW2, hK2, hq2⟩
  have hK1 : Kept (Mine a.g uv) W1 w2 := ((Kept.refl _ W1).drew).trans hK2 (fun k e => .inl e)
  have hKw : Kept (Mine a.g uv) w w2 := ((Kept.refl _ w).below HB1).trans hK1 (fun k e => .inl e)
  have hqw : ∀ q, uv'.ownBlock = some q → uv.ownBlock = some q ∨ w.heap.size ≤ q := fun q e => (hq2 q e).imp id (fun h9 => by simp at h9; omega)
  have hbx2 : Blk w2 w.heap.size 35 #[.int .i64 A.what, .int .i64 A.a, .int .i64 A.b] := (hK1.block _ (by omega) (fun e => by rcases e with e | e; omega; have := HOwn.out _ e; omega)).trans bx
  have hy2 : w2.cell? ⟨a.N, 0, none⟩ = some (.pointer (some ⟨a.g, 0, none⟩)) := (World.cell?_of_block (hK1.block a.N kN1 (HF.out _ (.inl rfl)))).trans y0
  refine hK.out _ _ (⟨hbx2.cell 0, hbx2.cell 1, hbx2.cell 2, hy2⟩) (fun hHeld2 => ?_)
  clear hK K hHeld
  have hHeld := hHeld2
  try simp only [Act.put, List.setIfInBounds_toArray, List.set_cons_zero, List.set_cons_succ]
  refine take_d (i := 6) (v := (.tuple #[P, errV c])) (d := some 10) rfl (by kernel_rfl) (by kernel_rfl) (by kernel_rfl) (by kernel_rfl) (fun _ _ _ h => h) (Or.inl ⟨by kernel_rfl, fun w9 hw9 => by (go_simp)⟩) hHeld ?_
  try simp only [Act.put, List.setIfInBounds_toArray, List.set_cons_zero, List.set_cons_succ]
  refine take_d (i := 7) (v := P) (d := some 17) rfl (by kernel_rfl) (by kernel_rfl) (by kernel_rfl) (by kernel_rfl) (fun _ _ _ h => h) (Or.inl ⟨by kernel_rfl, fun w9 hw9 => by (go_simp)⟩) hHeld ?_
  try simp only [Act.put, List.setIfInBounds_toArray, List.set_cons_zero, List.set_cons_succ]
  refine take_d (i := 8) (v := (errV c)) (d := some 18) rfl (by kernel_rfl) (by kernel_rfl) (by kernel_rfl) (by kernel_rfl) (fun _ _ _ h => h) (Or.inl ⟨by kernel_rfl, fun w9 hw9 => by (go_simp)⟩) hHeld ?_
  try simp only [Act.put, List.setIfInBounds_toArray, List.set_cons_zero, List.set_cons_succ]
  refine take_d (i := 9) (v := P) (d := some 5) rfl (by kernel_rfl) (by kernel_rfl) (by kernel_rfl) (by kernel_rfl) (fun _ _ _ h => h) (Or.inl ⟨by kernel_rfl, fun w9 hw9 => by (go_simp)⟩) hHeld ?_
  try simp only [Act.put, List.setIfInBounds_toArray, List.set_cons_zero, List.set_cons_succ]
  refine take_d (i := 10) (v := (errV c)) (d := some 6) rfl (by kernel_rfl) (by kernel_rfl) (by kernel_rfl) (by kernel_rfl) (fun _ _ _ h => h) (Or.inl ⟨by kernel_rfl, fun w9 hw9 => by (go_simp)⟩) hHeld ?_
  try simp only [Act.put, List.setIfInBounds_toArray, List.set_cons_zero, List.set_cons_succ]
  refine wpAnyH_done (by kernel_rfl) ?_ _
  try simp only [Act.put, List.setIfInBounds_toArray, List.set_cons_zero, List.set_cons_succ]
  obtain rfl : P = .pointer none := hP
  have hN2 := (HU.out.world hW2 hKw hqw hhas).mono (show K ≤ K + 1 by omega)
  have HN2 := Lib.hid hN2
  have HKw := Lib.hid (show Kept (NetMine a uv) w w2 from (Kept.refl _ w).trans hKw (fun k e => .inl (by rcases e with e | e; exact .inl e; exact .inr (.inl e))))
  have HQ2 := Lib.hid hqw
  clear hN2 hW2 hK2 hK1 hKw hbx2 hy2 hq2 hqw
  by_cases hc : c = 0
  · subst hc
    go_wp2_with fail
    go_ret
    exact ⟨rfl, uv', HN2.out, HKw.out, HQ2.out⟩
  · rw [errV_ne hc]
    go_wp2_with fail
    go_ret
    exact ⟨by rw [errV_ne hc]; rfl, uv', HN2.out, HKw.out, HQ2.out⟩
end Go.Proofs.YtmficdfihogffaaDoor

/- Package net: Show, Edges, walked. -/
namespace Go.Proofs.YtmficdfihogffaaDoor
open Go.RowKit
set_option linter.unusedVariables false
set_option linter.unusedSimpArgs false
/-- what a clock shows. -/
def hereAt (ss rs : List Int) (t : Int) (i : Nat) : Int := readV (ss.getD i 0) (rs.getD i 0) t
/-- the fault of the first k nodes' edges. -/
def netC (h : Nat → Int) (S : Nat → NSt) : Nat → Int
  | 0 => 0
  | k + 1 => if netC h S k = 0 then tellC (S k) (h k) else netC h S k
def netL (h : Nat → Int) (S : Nat → NSt) (k : Nat) : List REdge := (List.range k).flatMap fun i => tellE (S i) (h i)
def netE (h : Nat → Int) (S : Nat → NSt) (k : Nat) : List REdge := if netC h S k = 0 then netL h S k else []
theorem netL_succ (h : Nat → Int) (S : Nat → NSt) (k : Nat) : netL h S (k + 1) = netL h S k ++ tellE (S k) (h k) := by
  unfold netL; rw [List.range_succ, List.flatMap_append, List.flatMap_cons, List.flatMap_nil, List.append_nil]
theorem netC_stays {h : Nat → Int} {S : Nat → NSt} {k n : Nat} (hk : netC h S k ≠ 0) (hn : k ≤ n) : netC h S n = netC h S k := by
  induction n with
  | zero => have : k = 0 := by omega
            subst this; rfl
  | succ n ih =>
    by_cases c : k = n + 1
    · subst c; rfl
    · have := ih (by omega)
      show (if netC h S n = 0 then tellC (S n) (h n) else netC h S n) = netC h S k
      rw [if_neg (by rw [this]; exact hk), this]
theorem netL_len {h : Nat → Int} {S : Nat → NSt} {n : Nat} (hN : ∀ i, i < n → (S i).N = n) (k : Nat) (hk : k ≤ n) : (netL h S k).length ≤ k * n := by
  induction k with
  | zero => simp [netL]
  | succ k ih =>
    rw [netL_succ, List.length_append, Nat.succ_mul]
    have := ih (by omega)
    have := tellE_len (S k) (h k)
    rw [hN k (by omega)] at this
    omega
theorem hereAt_eq {ss rs : List Int} {t : Int} {i : Nat} {s r : Int} (hs : ss[i]? = some s) (hr : rs[i]? = some r) : hereAt ss rs t i = readV s r t := by
  unfold hereAt
  rw [List.getD_eq_getElem?_getD, List.getD_eq_getElem?_getD, hs, hr]; rfl
theorem NetAt.at_ {w : World} {a : NAd} {ss rs : List Int} {p t : Int} {uv : Value} {us : List RLetter} {K : Nat} {S : Nat → NSt} (h : NetAt w a ss rs p t uv us K S) {i : Nat} (hi : i < a.n) : ∃ s r, ss[i]? = some s ∧ rs[i]? = some r ∧ hereAt ss rs t i = readV s r t ∧ (0 ≤ s ∧ s ≤ 1000000) ∧ (-1000 ≤ r ∧ r ≤ 1000) := by
  obtain ⟨_, hs⟩ : ∃ z, ss[i]? = some z := ⟨_, List.getElem?_eq_getElem (by rw [h.W.ls]; exact hi)⟩
  obtain ⟨_, hr⟩ : ∃ z, rs[i]? = some z := ⟨_, List.getElem?_eq_getElem (by rw [h.W.lr]; exact hi)⟩
  exact ⟨_, _, hs, hr, hereAt_eq hs hr, h.W.sb i _ hs, h.W.rb i _ hr⟩
theorem edge_oneT (z : REdge) : ∀ u ∈ REdge.cells z, u.oneCell' = true := by
  intro u hu
  simp [REdge.cells] at hu
  rcases hu with rfl | rfl | rfl | rfl <;> rfl
theorem infoEdgeT : (Tryd.prog.info? 108).map (fun i => (i.zero, i.size, i.bytes)) = some (some (.agg #[.int .i64 0, .int .i64 0, .int .i64 0, .int .i64 0]), 4, 32) := by kernel_rfl
set_option maxRecDepth 100000 in
set_option maxHeartbeats 8000000 in
theorem net_Edges (a : NAd) (ss rs : List Int) (p t : Int) (uv : Value) (us : List RLetter) (K : Nat) (S : Nat → NSt) (w : World) (h : NetAt w a ss rs p t uv us K S) :
    Calls Tryd.prog 16 #[.pointer (some ⟨a.N, 0, none⟩)] w fun e w' => EdgesTold w w' e (netE (hereAt ss rs t) S a.n) (netC (hereAt ss rs t) S a.n) := by
  obtain ⟨i0, hi, hz0, hz1, hz2⟩ := info_parts infoEdgeT
  have HU := Lib.hid h
  have n6 := h.W.n6
  have kN := h.net.lt
  have c1 := h.net.cell 1
  simp at c1
  have hnc := h.nc.1
  have hcm := h.nc.2
  unfold maxLen at hcm
  have kq := h.ql
  have hlens := fun k hk => netL_len (h := hereAt ss rs t) (S := S) (n := a.n) (fun i hi => (h.sN i hi).1) k hk
  have HLens := Lib.hid hlens
  have HEok := Lib.hid (fun k (hk : k ≤ a.n) => show ∀ z ∈ netL (hereAt ss rs t) S k, z.ok from fun z hz => by
    obtain ⟨i, hi, hz⟩ := List.mem_flatMap.1 hz
    exact tellE_ok (h.nd i (by have := List.mem_range.1 hi; omega)).ok z hz)
  clear h hlens
  go_enter Tryd.func16, Tryd.ntmps16
  go_wp2_with fail
  go_loopw [4, 15] (fun vv iv wr => ∃ i : Nat, iv = .int .i64 i ∧ i ≤ a.n ∧ netC (hereAt ss rs t) S i = 0 ∧ wr.ownsRow w.heap.size 108 4 vv (netL (hereAt ss rs t) S i).length ((netL (hereAt ss rs t) S i).flatMap REdge.cells) ∧ Below w.heap.size w wr) (fun _ iv _ => a.n - (intOf iv).toNat)
  case atStart => exact ⟨0, rfl, by omega, rfl, by simpa [netL] using own_nil _ _ _ _, Below.refl _ _⟩
  case round =>
    obtain ⟨i, rfl, hi', hC, hO, hB⟩ := hrel
    have HO := Lib.hid hO
    have HBr := Lib.hid hB
    have HC := Lib.hid hC
    have hzr := hB.size
    have HNr := Lib.hid (HU.out.below hB)
    by_cases d1 : i < a.n
    · have zr : wr.cell? ⟨a.q, i, none⟩ = some (.pointer (some ⟨a.gi i, 0, none⟩)) := HNr.out.row i d1
      have z0 : wr.cell? ⟨a.N, 0, none⟩ = some (.pointer (some ⟨a.g, 0, none⟩)) := by have := HNr.out.net.cell 0; simpa using this
      have g1 : (i : Int) < (a.n : Int) := by omega
      obtain ⟨sv, rv, hs, hr, hh, _, _⟩ := HU.out.at_ d1
      have CR := Lib.hid (by have := world_Read a.g a.n ss rs t uv i sv rv wr HNr.out.W.at hs hr; rw [← hh] at this; exact this)
      have hq : a.q < wr.heap.size := HNr.out.ql
      have hlen := HLens.out i (by omega)
      have hmul : i * a.n ≤ 36 := by have := Nat.mul_le_mul (show i ≤ 6 by omega) n6; omega
      obtain ⟨L, hL⟩ : ∃ L, netL (hereAt ss rs t) S i = L := ⟨_, rfl⟩
      rw [hL] at HO hlen
      have HL := Lib.hid hL
      obtain ⟨here, hhere⟩ : ∃ v, hereAt ss rs t i = v := ⟨_, rfl⟩
      rw [hhere] at CR
      have HH := Lib.hid hhere
      clear hO hB hC hs hr hh hL hhere
      go_wp2_with fail
      refine CR.out.mono ?_
      rintro e w2 ⟨rfl, hb2⟩
      have HB2 := Lib.hid hb2
      have hz2' := hb2.size
      have CE := Lib.hid (node_Edges (a.gi i) (a.mb i) K (S i) here w2 ((HNr.out.below hb2).nd i d1))
      clear hb2 CR z0 zr
      go_wp2_with fail
      refine CE.out.mono ?_
      rintro e w3 ⟨A3, n3, k3, rfl, hI3, hb3⟩
      have HB3 := Lib.hid (HB2.out.trans (hb3.mono HB2.out.size))
      have hz3 := HB3.out.size
      by_cases hc : tellC (S i) here = 0
      · have hn3 : n3 = (tellE (S i) here).length := hI3.1.symm
        have hlt : n3 ≤ 6 := by rw [hn3]; have := tellE_len (S i) here; rw [(HU.out.sN i d1).1] at this; omega
        have HI3 := Lib.hid hI3
        have HN3 := Lib.hid hn3
        have HO3 := Lib.hid (own_below HO.out HB3.out)
        have HCC := Lib.hid (show netC (hereAt ss rs t) S (i + 1) = 0 by show (if netC (hereAt ss rs t) S i = 0 then tellC (S i) (hereAt ss rs t i) else _) = 0; rw [if_pos HC.out, HH.out]; exact hc)
        rw [hc]
        clear hI3 hb3 CE hn3 HO hc
        go_wp2_with (at_builtin; refine wpList_append_recs REdge.cells REdge.ok 4 (fun _ => rfl) edge_oneT _ rfl _ _ 47 rfl w.heap.size 108 i0 _ 32 Tryd.underlying47 hi hz0 hz1 hz2 rfl (by decide) _ L.length (L.flatMap REdge.cells) rfl HO3.out A3 n3 k3 (tellE (S i) here) rfl HI3.out (by unfold maxLen; omega) (by omega) (by omega) ?_; intro v5 w5 ho5 hg5)
        have HO5 := Lib.hid (show w5.ownsRow w.heap.size 108 4 v5 (netL (hereAt ss rs t) S (i + 1)).length ((netL (hereAt ss rs t) S (i + 1)).flatMap REdge.cells) from by
          rw [netL_succ, HH.out, HL.out, List.length_append, List.flatMap_append, ← HN3.out]; exact ho5)
        have HB5 := Lib.hid ((HBr.out.trans (HB3.out.mono hzr)).grown hg5 (by omega) (fun k hk => (HO3.out.lt k hk).1))
        clear ho5 hg5 HO3 HI3
        go_wp2_with fail
        go_roundw
        case rel => exact ⟨i + 1, by go_num, by omega, HCC.out, HO5.out, HB5.out⟩
        case measure => go_light; simp [intOf]; omega
      · have HCC := Lib.hid (show netC (hereAt ss rs t) S a.n = tellC (S i) here by
          have e : netC (hereAt ss rs t) S (i + 1) = tellC (S i) here := by show (if netC (hereAt ss rs t) S i = 0 then tellC (S i) (hereAt ss rs t i) else _) = _; rw [if_pos HC.out, HH.out]
          rw [← e]; exact netC_stays (by rw [e]; exact hc) (by omega))
        have HEE := Lib.hid (show netE (hereAt ss rs t) S a.n = [] by unfold netE; rw [HCC.out, if_neg hc])
        have HBw := Lib.hid (HBr.out.trans (HB3.out.mono hzr))
        obtain ⟨c, hcc⟩ : ∃ c, tellC (S i) here = c := ⟨_, rfl⟩
        rw [hcc] at hc HCC ⊢
        rw [errV_ne hc]
        clear hI3 hb3 CE hcc
        go_wp2_with fail
        refine bodyPost_ret (v := .tuple #[.slice none 0 0, .iface 75 (.int .i64 c)]) (by simp [results, Tryd.results16, go_sem]) rfl ?_
        exact ⟨none, 0, 0, by rw [HCC.out, errV_ne hc], by rw [HEE.out]; exact recs_nil _ _ _ _, HBw.out⟩
    · obtain rfl : i = a.n := by omega
      obtain ⟨A9, n9, c9, e9, hI9⟩ := own_recs REdge.cells REdge.ok 4 (fun _ => rfl) hO (HEok.out a.n (Nat.le_refl _))
      have HI9 := Lib.hid hI9
      have HEE := Lib.hid (show netE (hereAt ss rs t) S a.n = netL (hereAt ss rs t) S a.n by unfold netE; rw [if_pos hC])
      rw [e9]
      clear hO HO hB hI9 e9 hC
      go_wp2_with fail
      refine bodyPost_ret (v := .tuple #[.slice A9 n9 c9, .nilIface]) (by simp [results, Tryd.results16, go_sem]) rfl ?_
      exact ⟨_, _, _, by rw [HC.out]; rfl, by rw [HEE.out]; exact HI9.out, HBr.out⟩
theorem net_Show (a : NAd) (ss rs : List Int) (p t : Int) (uv : Value) (us : List RLetter) (K : Nat) (S : Nat → NSt) (i : Nat) (w : World) (h : NetAt w a ss rs p t uv us K S) (hi : i < a.n) :
    Calls Tryd.prog 19 #[.pointer (some ⟨a.N, 0, none⟩), .int .i64 i] w fun e w' => e = .returned (.tuple #[.int .i64 (hereAt ss rs t i), .nilIface]) ∧ Below w.heap.size w w' := by
  obtain ⟨sv, rv, hs, hr, hh, _, _⟩ := h.at_ hi
  have CR := Lib.hid (by have := world_Read a.g a.n ss rs t uv i sv rv w h.W.at hs hr; rw [← hh] at this; exact this)
  have c0 := h.net.cell 0
  simp at c0
  clear h hs hr hh
  go_enter Tryd.func19, Tryd.ntmps19
  go_wp2_with fail
  refine CR.out.mono ?_
  rintro e w2 ⟨rfl, hb2⟩
  go_wp2_with fail
  go_ret2
  exact ⟨rfl, hb2⟩
end Go.Proofs.YtmficdfihogffaaDoor

/- noonref1.Tight, walked: along all edges again and again. -/
namespace Go.Proofs.YtmficdfihogffaaDoor
open Go.RowKit
set_option linter.unusedVariables false
set_option linter.unusedSimpArgs false
def rowB (N : Nat) (H : Nat → Nat → Bool) (i : Nat) : List Bool := (List.range N).map (H i)
theorem rowB_at {N : Nat} {H : Nat → Nat → Bool} {i k : Nat} (h : k < N) : (rowB N H i)[k]? = some (H i k) := by
  unfold rowB
  rw [List.getElem?_map, List.getElem?_range h]
  rfl
theorem rowB_len (N : Nat) (H : Nat → Nat → Bool) (i : Nat) : (rowB N H i).length = N := by simp [rowB]
def upH (H : Nat → Nat → Bool) (a b : Nat) : Nat → Nat → Bool := fun i j => if i = a ∧ j = b then true else H i j
theorem rowB_set {N : Nat} {H : Nat → Nat → Bool} {i k : Nat} : (rowB N H i).set k true = rowB N (upH H i k) i := by
  apply List.ext_getElem?
  intro j
  rw [List.getElem?_set]
  by_cases hj : j < N
  · rw [rowB_at (H := upH H i k) hj]
    by_cases e : k = j
    · subst e
      rw [if_pos rfl, if_pos (by rw [rowB_len]; exact hj)]
      simp [upH]
    · rw [if_neg e, rowB_at hj]
      simp [upH, show ¬ j = k from fun h => e h.symm]
  · rw [List.getElem?_eq_none (l := rowB N (upH H i k) i) (by rw [rowB_len]; omega)]
    by_cases e : k = j
    · subst e
      rw [if_pos rfl, if_neg (by rw [rowB_len]; omega)]
    · rw [if_neg e, List.getElem?_eq_none (by rw [rowB_len]; omega)]
theorem rowB_ne {N : Nat} {H : Nat → Nat → Bool} {i j k : Nat} (h : j ≠ i) : rowB N (upH H i k) j = rowB N H j := by
  unfold rowB
  apply List.map_congr_left
  intro a _
  simp [upH, h]
/-- slices of the first i rows. -/
def slV (ρ : Nat → Nat) (N i : Nat) : List Value := (List.range i).map fun j => Value.slice (some ⟨ρ j, 0, none⟩) N N
theorem slV_succ (ρ : Nat → Nat) (N i r : Nat) : slV ρ N i ++ [Value.slice (some ⟨r, 0, none⟩) N N] = slV (fun j => if j = i then r else ρ j) N (i + 1) := by
  unfold slV
  rw [List.range_succ, List.map_append]
  congr 1
  · apply List.map_congr_left
    intro j hj
    have := List.mem_range.1 hj
    simp only [if_neg (show ¬ j = i by omega)]
  · simp
theorem slV_at {ρ : Nat → Nat} {N i j : Nat} (h : j < i) : (slV ρ N i)[j]? = some (Value.slice (some ⟨ρ j, 0, none⟩) N N) := by
  unfold slV
  rw [List.getElem?_map, List.getElem?_range h]
  rfl
theorem slV_len (ρ : Nat → Nat) (N i : Nat) : (slV ρ N i).length = i := by simp [slV]
/-- rows that were made, each a block of its own. -/
structure Rows2 (w : World) (B0 i : Nat) (ρ σ : Nat → Nat) (Ti Tb : TypeId) (cs ds : Nat → Array Value) : Prop where
  r1 : ∀ j, j < i → Blk w (ρ j) Ti (cs j)
  r2 : ∀ j, j < i → Blk w (σ j) Tb (ds j)
  i1 : ∀ j k, j < i → k < i → j ≠ k → ρ j ≠ ρ k
  i2 : ∀ j k, j < i → k < i → j ≠ k → σ j ≠ σ k
  b1 : ∀ j, j < i → B0 ≤ ρ j
  b2 : ∀ j, j < i → B0 ≤ σ j
section
variable {w : World} {B0 i : Nat} {ρ σ : Nat → Nat} {Ti Tb : TypeId} {cs ds : Nat → Array Value}
theorem Rows2.nil (w : World) (B0 : Nat) (ρ σ : Nat → Nat) (Ti Tb : TypeId) (cs ds : Nat → Array Value) : Rows2 w B0 0 ρ σ Ti Tb cs ds :=
  ⟨fun j h => absurd h (by omega), fun j h => absurd h (by omega), fun j k h => absurd h (by omega), fun j k h => absurd h (by omega), fun j h => absurd h (by omega), fun j h => absurd h (by omega)⟩
/-- the world went on, and none of the rows has turned. -/
theorem Rows2.keep {w' : World} (h : Rows2 w B0 i ρ σ Ti Tb cs ds) (hk : ∀ b, b < w.heap.size → (∀ T xs, Blk w b T xs → (T = Ti ∨ T = Tb) → Blk w' b T xs)) : Rows2 w' B0 i ρ σ Ti Tb cs ds :=
  ⟨fun j hj => hk _ (h.r1 j hj).lt _ _ (h.r1 j hj) (.inl rfl), fun j hj => hk _ (h.r2 j hj).lt _ _ (h.r2 j hj) (.inr rfl), h.i1, h.i2, h.b1, h.b2⟩
/-- a row more. -/
theorem Rows2.snoc {r s : Nat} (h : Rows2 w B0 i ρ σ Ti Tb cs ds) (h1 : Blk w r Ti (cs i)) (h2 : Blk w s Tb (ds i)) (g1 : ∀ j, j < i → ρ j < r) (g2 : ∀ j, j < i → σ j < s) (e1 : B0 ≤ r) (e2 : B0 ≤ s) :
    Rows2 w B0 (i + 1) (fun j => if j = i then r else ρ j) (fun j => if j = i then s else σ j) Ti Tb cs ds := by
  refine ⟨fun j hj => ?_, fun j hj => ?_, fun j k hj hk hne => ?_, fun j k hj hk hne => ?_, fun j hj => ?_, fun j hj => ?_⟩
  · by_cases e : j = i
    · subst e; simp only [if_true]; exact h1
    · simp only [if_neg e]; exact h.r1 j (by omega)
  · by_cases e : j = i
    · subst e; simp only [if_true]; exact h2
    · simp only [if_neg e]; exact h.r2 j (by omega)
  · by_cases e : j = i <;> by_cases f : k = i
    · omega
    · simp only [if_pos e, if_neg f]; have := g1 k (by omega); omega
    · simp only [if_neg e, if_pos f]; have := g1 j (by omega); omega
    · simp only [if_neg e, if_neg f]; exact h.i1 j k (by omega) (by omega) hne
  · by_cases e : j = i <;> by_cases f : k = i
    · omega
    · simp only [if_pos e, if_neg f]; have := g2 k (by omega); omega
    · simp only [if_neg e, if_pos f]; have := g2 j (by omega); omega
    · simp only [if_neg e, if_neg f]; exact h.i2 j k (by omega) (by omega) hne
  · by_cases e : j = i
    · simp only [if_pos e]; exact e1
    · simp only [if_neg e]; exact h.b1 j (by omega)
  · by_cases e : j = i
    · simp only [if_pos e]; exact e2
    · simp only [if_neg e]; exact h.b2 j (by omega)
end
/-- the table: rows of numbers and of Booleans behind two slices. -/
structure TabAt (w : World) (B0 g1 g2 N : Nat) (cur1 cur2 : Array Value) (ρ σ : Nat → Nat) (Tsi Tsb Ti Tb : TypeId) (D : Nat → Nat → Int) (H : Nat → Nat → Bool) : Prop where
  o1 : Blk w g1 Tsi cur1
  o2 : Blk w g2 Tsb cur2
  rows : Rows2 w B0 N ρ σ Ti Tb (fun j => ICells (rowOf N D j)) (fun j => BCells (rowB N H j))
  c1 : ∀ j, j < N → cur1[j]? = some (Value.slice (some ⟨ρ j, 0, none⟩) N N)
  c2 : ∀ j, j < N → cur2[j]? = some (Value.slice (some ⟨σ j, 0, none⟩) N N)
section
variable {w : World} {B0 g1 g2 N : Nat} {cur1 cur2 : Array Value} {ρ σ : Nat → Nat} {Tsi Tsb Ti Tb : TypeId} {D : Nat → Nat → Int} {H : Nat → Nat → Bool}
theorem TabAt.x1 (h : TabAt w B0 g1 g2 N cur1 cur2 ρ σ Tsi Tsb Ti Tb D H) {j : Nat} (hj : j < N) : w.cell? ⟨g1, j, none⟩ = some (Value.slice (some ⟨ρ j, 0, none⟩) N N) := (h.o1.cell j).trans (h.c1 j hj)
theorem TabAt.x2 (h : TabAt w B0 g1 g2 N cur1 cur2 ρ σ Tsi Tsb Ti Tb D H) {j : Nat} (hj : j < N) : w.cell? ⟨g2, j, none⟩ = some (Value.slice (some ⟨σ j, 0, none⟩) N N) := (h.o2.cell j).trans (h.c2 j hj)
theorem TabAt.d (h : TabAt w B0 g1 g2 N cur1 cur2 ρ σ Tsi Tsb Ti Tb D H) {j k : Nat} (hj : j < N) (hk : k < N) : w.cell? ⟨ρ j, k, none⟩ = some (.int .i64 (D j k)) := (h.rows.r1 j hj).iat (rowOf_at hk)
theorem TabAt.h (h : TabAt w B0 g1 g2 N cur1 cur2 ρ σ Tsi Tsb Ti Tb D H) {j k : Nat} (hj : j < N) (hk : k < N) : w.cell? ⟨σ j, k, none⟩ = some (.bool (H j k)) := (h.rows.r2 j hj).bat (rowB_at hk)
theorem TabAt.drewN (h : TabAt w B0 g1 g2 N cur1 cur2 ρ σ Tsi Tsb Ti Tb D H) (m : Nat) : TabAt (w.drewN m) B0 g1 g2 N cur1 cur2 ρ σ Tsi Tsb Ti Tb D H := ⟨h.o1, h.o2, ⟨h.rows.r1, h.rows.r2, h.rows.i1, h.rows.i2, h.rows.b1, h.rows.b2⟩, h.c1, h.c2⟩
theorem TabAt.setD (h : TabAt w B0 g1 g2 N cur1 cur2 ρ σ Tsi Tsb Ti Tb D H) (n1 : Tsi ≠ Ti) (n2 : Tsb ≠ Ti) (n3 : Tb ≠ Ti) {i : Nat} (hi : i < N) (k : Nat) (v : Int) :
    TabAt (w.setCell ⟨ρ i, k, none⟩ (.int .i64 v)) B0 g1 g2 N cur1 cur2 ρ σ Tsi Tsb Ti Tb (up2 D i k v) H :=
  ⟨h.o1.far (h.o1.type_ne (h.rows.r1 i hi) n1) _, h.o2.far (h.o2.type_ne (h.rows.r1 i hi) n2) _,
    ⟨fun j hj => by
      by_cases e : j = i
      · subst e
        have := (h.rows.r1 j hj).iset k v
        rw [rowOf_set] at this
        exact this
      · rw [rowOf_ne _ e]
        exact (h.rows.r1 j hj).far (h.rows.i1 j i hj hi e) _, fun j hj => (h.rows.r2 j hj).far ((h.rows.r2 j hj).type_ne (h.rows.r1 i hi) n3) _, h.rows.i1, h.rows.i2, h.rows.b1, h.rows.b2⟩, h.c1, h.c2⟩
theorem TabAt.setH (h : TabAt w B0 g1 g2 N cur1 cur2 ρ σ Tsi Tsb Ti Tb D H) (n1 : Tsi ≠ Tb) (n2 : Tsb ≠ Tb) (n3 : Ti ≠ Tb) {i : Nat} (hi : i < N) (k : Nat) :
    TabAt (w.setCell ⟨σ i, k, none⟩ (.bool true)) B0 g1 g2 N cur1 cur2 ρ σ Tsi Tsb Ti Tb D (upH H i k) :=
  ⟨h.o1.far (h.o1.type_ne (h.rows.r2 i hi) n1) _, h.o2.far (h.o2.type_ne (h.rows.r2 i hi) n2) _,
    ⟨fun j hj => (h.rows.r1 j hj).far ((h.rows.r1 j hj).type_ne (h.rows.r2 i hi) n3) _, fun j hj => by
      by_cases e : j = i
      · subst e
        have := (h.rows.r2 j hj).bset k true
        rw [rowB_set] at this
        exact this
      · rw [rowB_ne e]
        exact (h.rows.r2 j hj).far (h.rows.i2 j i hj hi e) _, h.rows.i1, h.rows.i2, h.rows.b1, h.rows.b2⟩, h.c1, h.c2⟩
theorem TabAt.congr (h : TabAt w B0 g1 g2 N cur1 cur2 ρ σ Tsi Tsb Ti Tb D H) {E : Nat → Nat → Int} {G : Nat → Nat → Bool} (e1 : D = E) (e2 : H = G) : TabAt w B0 g1 g2 N cur1 cur2 ρ σ Tsi Tsb Ti Tb E G := by
  subst e1; subst e2; exact h
theorem TabAt.mats (h : TabAt w B0 g1 g2 N cur1 cur2 ρ σ Tsi Tsb Ti Tb D H) {c d : Nat} (hc : N ≤ c) (hd : N ≤ d) (hc' : c ≤ maxLen) (hd' : d ≤ maxLen) :
    IsMat w intCells 1 (some ⟨g1, 0, none⟩) N c N D ∧ IsMat w boolCells 1 (some ⟨g2, 0, none⟩) N d N H := by
  have hN : N ≤ maxLen := by omega
  refine ⟨⟨rfl, hc, hc', g1, rfl, h.o1.lt, fun i hi => ⟨ρ i, N, h.x1 hi, Nat.le_refl _, hN, (h.rows.r1 i hi).lt, fun j hj q u hu => ?_⟩⟩, ⟨rfl, hd, hd', g2, rfl, h.o2.lt, fun i hi => ⟨σ i, N, h.x2 hi, Nat.le_refl _, hN, (h.rows.r2 i hi).lt, fun j hj q u hu => ?_⟩⟩⟩
  · have hq : q = 0 := by have := (List.getElem?_eq_some_iff.1 hu).1; simp [intCells] at this; omega
    subst hq
    simp [intCells] at hu
    subst hu
    have := h.d hi hj
    simpa using this
  · have hq : q = 0 := by have := (List.getElem?_eq_some_iff.1 hu).1; simp [boolCells] at this; omega
    subst hq
    simp [boolCells] at hu
    subst hu
    have := h.h hi hj
    simpa using this
end
/-- one row anew. -/
def rowUp {α : Type} (D : Nat → Nat → α) (i : Nat) (f : Nat → α) : Nat → Nat → α := fun a => if a = i then f else D a
theorem up2_row (D : Nat → Nat → Int) (i k : Nat) (v : Int) : up2 D i k v = rowUp D i (up1 (D i) k v) := by
  funext a b
  unfold up2 rowUp up1
  by_cases e : a = i
  · subst e; simp
  · simp [e]
theorem upH_row (H : Nat → Nat → Bool) (i k : Nat) : upH H i k = rowUp H i (upB (H i) k) := by
  funext a b
  unfold upH rowUp upB
  by_cases e : a = i
  · subst e; simp
  · simp [e]
theorem rowUp_same {α : Type} (D : Nat → Nat → α) (i : Nat) : rowUp D i (D i) = D := by
  funext a
  unfold rowUp
  by_cases e : a = i
  · subst e; simp
  · simp [e]
theorem rowUp_at {α : Type} (D : Nat → Nat → α) (i : Nat) (f : Nat → α) : rowUp D i f i = f := by simp [rowUp]
theorem rowUp_rowUp {α : Type} (D : Nat → Nat → α) (i : Nat) (f g : Nat → α) : rowUp (rowUp D i f) i g = rowUp D i g := by
  funext a
  unfold rowUp
  by_cases e : a = i
  · simp [e]
  · simp [e]
/-- round R, row i, k edges of it told. -/
def TabK (N : Nat) (l : List REdge) (R i k S : Nat) (D : Nat → Nat → Int) (H : Nat → Nat → Bool) : Prop :=
  ∀ a, a < N → if a = i then RowT l a R k (S + 2 * k) (D a) (H a) else RowT l a (if a < i then R + 1 else R) 0 (if a < i then S + 2 * l.length else S) (D a) (H a)
theorem TabT.row {N : Nat} {l : List REdge} {R i S : Nat} {D : Nat → Nat → Int} {H : Nat → Nat → Bool} (h : TabT N l R i S D H) : TabK N l R i 0 S D H := by
  intro a ha
  have := h a ha
  by_cases e : a = i
  · subst e
    rw [if_pos rfl]
    rw [if_neg (by omega), if_neg (by omega)] at this
    exact this
  · rw [if_neg e]; exact this
theorem TabK.edge {N : Nat} {l : List REdge} {R i k S : Nat} {D : Nat → Nat → Int} {H : Nat → Nat → Bool} (hl : EdgesOk N l) (h : TabK N l R i k S D H) (hi : i < N) {e : REdge} (he : l[k]? = some e) {a b : Nat} (ha : e.a = a) (hb : e.b = b) :
    TabK N l R i (k + 1) S (rowUp D i (edD (D i) (H i) a b e.lo e.hi)) (rowUp H i (edH (D i) (H i) a b e.lo e.hi)) := by
  intro c hc
  have := h c hc
  by_cases f : c = i
  · subst f
    rw [if_pos rfl] at this ⊢
    rw [rowUp_at, rowUp_at, show S + 2 * (k + 1) = S + 2 * k + 2 by omega]
    exact this.step hl he ha hb
  · rw [if_neg f] at this ⊢
    unfold rowUp
    rw [if_neg f, if_neg f]
    exact this
theorem TabK.done {N : Nat} {l : List REdge} {R i S : Nat} {D : Nat → Nat → Int} {H : Nat → Nat → Bool} (h : TabK N l R i l.length S D H) : TabT N l R (i + 1) S D H := by
  intro a ha
  have := h a ha
  by_cases e : a = i
  · subst e
    rw [if_pos rfl] at this
    rw [if_pos (by omega), if_pos (by omega)]
    exact this.next
  · rw [if_neg e] at this
    by_cases f : a < i
    · rw [if_pos f, if_pos f] at this
      rw [if_pos (by omega), if_pos (by omega)]
      exact this
    · rw [if_neg f, if_neg f] at this
      rw [if_neg (by omega), if_neg (by omega)]
      exact this
theorem TabT.again {N : Nat} {l : List REdge} {R S : Nat} {D : Nat → Nat → Int} {H : Nat → Nat → Bool} (h : TabT N l R N S D H) : TabT N l (R + 1) 0 (S + 2 * l.length) D H := by
  intro a ha
  have := h a ha
  rw [if_pos ha, if_pos ha] at this
  rw [if_neg (by omega), if_neg (by omega)]
  exact this
theorem TabK.at_ {N : Nat} {l : List REdge} {R i k S : Nat} {D : Nat → Nat → Int} {H : Nat → Nat → Bool} (h : TabK N l R i k S D H) (hi : i < N) : RowT l i R k (S + 2 * k) (D i) (H i) := by
  have := h i hi
  rw [if_pos rfl] at this
  exact this
def D00 (_ _ : Nat) : Int := 0
def H00 (a b : Nat) : Bool := decide (b = a)
theorem TabT.init (N : Nat) (l : List REdge) : TabT N l 0 0 0 D00 H00 := by
  intro a ha
  rw [if_neg (by omega), if_neg (by omega)]
  exact RowT.init l a _ _ rfl (fun b => by simp [H00])
end Go.Proofs.YtmficdfihogffaaDoor
