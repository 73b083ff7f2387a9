/- The reference's node: what is told of all, as spans, walked. -/
import Derived.Test.YtlkekkpknmbobaaDoorRNodeH
import Derived.Test.YtlkekkpknmbobaaDoorMat2
import Derived.Deep.Light
namespace Go.Proofs.YtlkekkpknmbobaaDoor
open Go.RowKit
set_option linter.unusedVariables false
set_option linter.unusedSimpArgs false
def partC (s : NSt) (i : Nat) : List Bool := (List.range s.N).map fun j => if j < i then hasAt s j else decide (j = s.id)
theorem partC_len (s : NSt) (i : Nat) : (partC s i).length = s.N := by simp [partC]
theorem partC_get {s : NSt} {i j : Nat} (hj : j < s.N) : (partC s i)[j]? = some (if j < i then hasAt s j else decide (j = s.id)) := by
  unfold partC; rw [List.getElem?_map, List.getElem?_range hj]; rfl
theorem partC_0 {s : NSt} (h : s.id < s.N) : (List.replicate s.N false).set s.id true = partC s 0 := by
  apply List.ext_getElem?
  intro j
  by_cases hj : j < s.N
  · rw [List.getElem?_set, partC_get hj]
    by_cases c : s.id = j
    · subst c; rw [if_pos rfl, List.length_replicate, if_pos h, if_neg (by omega)]; simp
    · rw [if_neg c, List.getElem?_replicate, if_pos hj, if_neg (by omega), decide_eq_false (fun e => c e.symm)]
  · rw [List.getElem?_eq_none (by rw [List.length_set, List.length_replicate]; omega), List.getElem?_eq_none (by rw [partC_len]; omega)]
theorem partC_set {s : NSt} {i : Nat} (hi : i < s.N) : (partC s i).set i (hasAt s i) = partC s (i + 1) := by
  apply List.ext_getElem?
  intro j
  by_cases hj : j < s.N
  · rw [List.getElem?_set, partC_get hj, partC_get hj, partC_len]
    by_cases c : i = j
    · subst c; rw [if_pos rfl, if_pos hi, if_pos (by omega)]
    · rw [if_neg c]
      by_cases c2 : j < i
      · rw [if_pos c2, if_pos (by omega)]
      · rw [if_neg c2, if_neg (by omega)]
  · rw [List.getElem?_eq_none (by rw [List.length_set, partC_len]; omega), List.getElem?_eq_none (by rw [partC_len]; omega)]
theorem partC_skip {s : NSt} {i : Nat} (hf : s.f i = none) : partC s (i + 1) = partC s i := by
  unfold partC
  apply List.map_congr_left
  intro j _
  by_cases c : j < i
  · rw [if_pos c, if_pos (by omega)]
  · rw [if_neg c]
    by_cases c2 : j = i
    · subst c2; rw [if_pos (by omega)]; unfold hasAt; rw [hf]
    · rw [if_neg (by omega)]
theorem partC_all {s : NSt} {here : Int} (h : tellC s here = 0) : partC s s.N = tellB s here := by
  unfold tellB partC
  rw [if_pos h]
  apply List.map_congr_left
  intro j hj
  rw [if_pos (List.mem_range.1 hj)]
/-- two slices and the number of a fault: what is told. -/
def SpansToldR (w w' : World) (e : Ending) (S : List RSpan) (H : List Bool) (c : Int) : Prop :=
  ∃ A n k B m d, e = .returned (.tuple #[.slice A n k, .slice B m d, .int .i64 c]) ∧ IsRecs w' RSpan.cells RSpan.ok 2 A n k S ∧ IsBools w' B m d H ∧ Below w.heap.size w w' ∧ (∀ x, A = some x → w.heap.size ≤ x.block) ∧ (∀ x, B = some x → w.heap.size ≤ x.block)
set_option maxRecDepth 100000 in
set_option maxHeartbeats 4000000 in
theorem r2_Spans_back (M : Nat) (s : NSt) (here : Int) (w : World) (h : RNodeAt w M s) (hb : s.backB here = true) :
    Calls Tryd.prog 10 #[.pointer (some ⟨M, 0, none⟩), .int .i64 here] w fun e w' => SpansToldR w w' e (tellS s here) (tellB s here) (tellC s here) := by
  have HT := Lib.hid (tell_back hb)
  have CB := Lib.hid (fun w' (hb' : Below w.heap.size w w') => by have := r2_Back M s here w' (h.below hb'); rw [hb] at this; exact this)
  have e1 := Lib.hid (show tellS s here = [] by unfold tellS; rw [HT.out]; rfl)
  have e2 := Lib.hid (show tellB s here = [] by unfold tellB; rw [HT.out]; rfl)
  clear h hb
  go_enter Tryd.func10, Tryd.ntmps10
  go_wp2_with fail
  refine (CB.out _ (by exact (by repeat (first | with_reducible exact Below.refl _ _ | (with_reducible refine Below.alloc ?_ (by first | omega | (simp; done) | (simp; omega)) _) | (with_reducible refine Below.setCell ?_ (by first | omega | (simp; done) | (simp; omega)) _) | (with_reducible refine Below.drew ?_) | (with_reducible refine below_drewN ?_ _) | (with_reducible assumption) | (with_reducible refine bel_step (by with_reducible assumption) ?_ (by first | omega | (simp; done) | (simp; omega))))))).mono ?_
  rintro e w' ⟨rfl, rfl⟩
  go_wp2_with fail
  refine bodyPost_ret (v := .tuple #[.slice none 0 0, .slice none 0 0, .int .i64 8]) (by simp [results, Tryd.results10, go_sem]) rfl ?_
  exact ⟨none, 0, 0, none, 0, 0, by rw [HT.out], by rw [e1.out]; exact recs_nil _ _ _ _, by rw [e2.out]; exact bools_nil _, (by repeat (first | with_reducible exact Below.refl _ _ | (with_reducible refine Below.alloc ?_ (by first | omega | (simp; done) | (simp; omega)) _) | (with_reducible refine Below.setCell ?_ (by first | omega | (simp; done) | (simp; omega)) _) | (with_reducible refine Below.drew ?_) | (with_reducible refine below_drewN ?_ _) | (with_reducible assumption) | (with_reducible refine bel_step (by with_reducible assumption) ?_ (by first | omega | (simp; done) | (simp; omega))))), fun x e => (by cases e), fun x e => (by cases e)⟩
set_option maxRecDepth 100000 in
set_option maxHeartbeats 8000000 in
theorem r2_Spans_on (M : Nat) (s : NSt) (here : Int) (w : World) (h : RNodeAt w M s) (hb : s.backB here = false) :
    Calls Tryd.prog 10 #[.pointer (some ⟨M, 0, none⟩), .int .i64 here] w fun e w' => SpansToldR w w' e (tellS s here) (tellB s here) (tellC s here) := by
  have HU := Lib.hid h
  have HB := Lib.hid hb
  have CB := Lib.hid (fun w' (hb' : Below w.heap.size w w') => by have := r2_Back M s here w' (h.below hb'); rw [hb] at this; exact this)
  have n1 := h.ok.n1
  have n6 := h.ok.n6
  have hid := h.ok.idN
  have c1 := h.c1
  have c0 := h.c0
  have kl := h.blk.lt
  have E0 := Lib.hid (partS_0 s here)
  have E1 := Lib.hid (partC_0 h.ok.idN)
  obtain ⟨N, hN⟩ : ∃ N, s.N = N := ⟨_, rfl⟩
  rw [hN] at c1 n1 n6 hid E0 E1
  have HN := Lib.hid hN
  have mk3 := make_spans N (by omega)
  have mk4 := run_make_row' (P := Tryd.prog) 28 4 (.bool false) 1 Tryd.underlying28 infoB rfl .i64 .i64 N (by omega) (by omega)
  rw [made_b] at mk4
  have q0 : (s.id : Int) < (N : Int) := by omega
  have q1 : (0 : Int) ≤ (s.id : Int) := by omega
  have hbb : ∀ W : World, Blk (W.alloc (.cells (BCells (List.replicate N false)) 4)) W.heap.size 4 (BCells (List.replicate N false)) := fun W => Blk.new W _ _
  have hcell : ∀ W : World, (W.alloc (.cells (BCells (List.replicate N false)) 4)).cell? ⟨W.heap.size, s.id, none⟩ = some (.bool false) := fun W => (hbb W).bat (by rw [List.getElem?_replicate, if_pos hid])
  have hfz : ∀ W : World, (W.alloc (.cells (BCells (List.replicate N false)) 4)).frozen? ⟨W.heap.size, s.id, none⟩ = false := fun W => (hbb W).fz _
  have h21 := hcell (w.alloc (.cells (SCells (List.replicate N ⟨0, 0⟩)) 37))
  have h22 := hfz (w.alloc (.cells (SCells (List.replicate N ⟨0, 0⟩)) 37))
  simp at h21 h22
  have kl1 : M < w.heap.size + 1 := by omega
  clear h hb hN hbb hcell hfz
  go_enter Tryd.func10, Tryd.ntmps10
  go_wp2_with fail
  refine (CB.out _ (by exact (by repeat (first | with_reducible exact Below.refl _ _ | (with_reducible refine Below.alloc ?_ (by first | omega | (simp; done) | (simp; omega)) _) | (with_reducible refine Below.setCell ?_ (by first | omega | (simp; done) | (simp; omega)) _) | (with_reducible refine Below.drew ?_) | (with_reducible refine below_drewN ?_ _) | (with_reducible assumption) | (with_reducible refine bel_step (by with_reducible assumption) ?_ (by first | omega | (simp; done) | (simp; omega))))))).mono ?_
  rintro e w' ⟨rfl, rfl⟩
  go_wp2_with fail
  have eB : (BCells (List.replicate N false)).setIfInBounds s.id (.bool true) = BCells (partC s 0) := by
    rw [← E1.out]
    unfold BCells
    rw [List.setIfInBounds_toArray, ← List.map_set]
  obtain ⟨W0, hW0⟩ : ∃ W, ((w.alloc (.cells (SCells (List.replicate N ⟨0, 0⟩)) 37)).alloc (.cells ((BCells (List.replicate N false)).setIfInBounds s.id (.bool true)) 4)) = W := ⟨_, rfl⟩
  have hP : Blk W0 w.heap.size 37 (SCells (partS s here 0)) := by rw [← hW0, E0.out]; exact (Blk.new w _ _).alloc _
  have hQ : Blk W0 (w.heap.size + 1) 4 (BCells (partC s 0)) := by rw [← hW0, ← eB]; exact Blk.newAt _ _ _ _ (by simp)
  have hB : Below w.heap.size w W0 := by rw [← hW0]; exact (by repeat (first | with_reducible exact Below.refl _ _ | (with_reducible refine Below.alloc ?_ (by first | omega | (simp; done) | (simp; omega)) _) | (with_reducible refine Below.setCell ?_ (by first | omega | (simp; done) | (simp; omega)) _) | (with_reducible refine Below.drew ?_) | (with_reducible refine below_drewN ?_ _) | (with_reducible assumption) | (with_reducible refine bel_step (by with_reducible assumption) ?_ (by first | omega | (simp; done) | (simp; omega)))))
  rw [hW0]
  have HP := Lib.hid hP
  have HQ := Lib.hid hQ
  have HB1 := Lib.hid hB
  obtain ⟨p, hp⟩ : ∃ p, w.heap.size = p := ⟨_, rfl⟩
  obtain ⟨q, hq⟩ : ∃ q, w.heap.size + 1 = q := ⟨_, rfl⟩
  rw [hq] at HQ ⊢
  have hpq : w.heap.size ≠ q := by omega
  have hpp : w.heap.size ≤ q := by omega
  clear hW0 hP hQ hB eB mk3 mk4 h21 h22 c0 c1 hp hq CB kl1
  go_loopw [10] (fun iv wr => ∃ i : Nat, iv = .int .i64 i ∧ i ≤ N ∧ Blk wr w.heap.size 37 (SCells (partS s here i)) ∧ Blk wr q 4 (BCells (partC s i)) ∧ Below w.heap.size w wr ∧ ∀ j, j < i → farAt s here j = false) (fun iv _ => N - (intOf iv).toNat)
  case atStart => exact ⟨0, rfl, by omega, HP.out, HQ.out, HB1.out, fun j hj => absurd hj (by omega)⟩
  case round =>
    obtain ⟨i, rfl, hi, hP, hQ, hB, hF⟩ := hrel
    have HPi := Lib.hid hP
    have HQi := Lib.hid hQ
    have HBi := Lib.hid hB
    have HF := Lib.hid hF
    have pl := hP.lt
    have ql := hQ.lt
    have hzr := hB.size
    have kl2 : M < wr.heap.size := by omega
    have hU := HU.out.below hB
    have y1 : wr.cell? ⟨M, 1, none⟩ = some (.int .i64 N) := by have := hU.c1; rw [HN.out] at this; exact this
    by_cases d1 : i < N
    · have hi6 : i < 6 := by omega
      have yh := hU.chas hi6
      have g1 : (i : Int) < (N : Int) := by omega
      have g2 : (0 : Int) ≤ (i : Int) := by omega
      have g3 : (i : Int) < 6 := by omega
      cases hf : s.f i with
      | none =>
        rw [hf] at yh
        simp only [Option.isSome_none] at yh
        have HS1 := Lib.hid (partS_skip (here := here) hf)
        have HS2 := Lib.hid (partC_skip hf)
        have HF2 := Lib.hid (show ∀ j, j < i + 1 → farAt s here j = false from fun j hj => by
          by_cases e : j < i
          · exact HF.out j e
          · have : j = i := by omega
            subst this; unfold farAt; rw [hf])
        clear hf hU hP hQ hB hF
        go_wp2_with fail
        go_roundw
        case rel =>
          have hBB := HBi.out
          refine ⟨i + 1, by go_num, by omega, ?_, ?_, (by repeat (first | with_reducible exact Below.refl _ _ | (with_reducible refine Below.alloc ?_ (by first | omega | (simp; done) | (simp; omega)) _) | (with_reducible refine Below.setCell ?_ (by first | omega | (simp; done) | (simp; omega)) _) | (with_reducible refine Below.drew ?_) | (with_reducible refine below_drewN ?_ _) | (with_reducible assumption) | (with_reducible refine bel_step (by with_reducible assumption) ?_ (by first | omega | (simp; done) | (simp; omega))))), HF2.out⟩
          · rw [HS1.out]; exact HPi.out
          · rw [HS2.out]; exact HQi.out
        case measure => go_light; simp [intOf]; omega
      | some k =>
        rw [hf] at yh
        simp only [Option.isSome_some] at yh
        have CA := Lib.hid (fun W (hb' : Below w.heap.size w W) => r2_aged M s i here k W (HU.out.below hb') hi6 hf HB.out)
        have hsv : spanAt s here i = ⟨ageL k s.p here, ageH k s.p here⟩ := by unfold spanAt; rw [hf]
        have hfv : farAt s here i = !rightB (ageL k s.p here) (ageH k s.p here) := by unfold farAt; rw [hf]
        have hhv : hasAt s i = true := by unfold hasAt; rw [hf]
        have HS1 := Lib.hid (partS_set (s := s) (here := here) (show i < s.N by rw [HN.out]; exact d1))
        have HS2 := Lib.hid (partC_set (s := s) (show i < s.N by rw [HN.out]; exact d1))
        obtain ⟨al, hal⟩ : ∃ v, ageL k s.p here = v := ⟨_, rfl⟩
        obtain ⟨ah, hah⟩ : ∃ v, ageH k s.p here = v := ⟨_, rfl⟩
        rw [hal, hah] at CA hsv hfv
        rw [hsv] at HS1
        rw [hhv] at HS2
        have CR := Lib.hid (fun W => r1_Span al ah W)
        obtain ⟨R, hR⟩ : ∃ b, rightB al ah = b := ⟨_, rfl⟩
        rw [hR] at CR hfv
        have HF2 := Lib.hid (show R = true → ∀ j, j < i + 1 → farAt s here j = false from fun hr j hj => by
          by_cases e : j < i
          · exact HF.out j e
          · have : j = i := by omega
            subst this; rw [hfv, hr]; rfl)
        have HF3 := Lib.hid (show R = false → tellC s here = 1 from fun hr => tell_far HB.out (show i < s.N by rw [HN.out]; exact d1) (by rw [hfv, hr]; rfl))
        clear hf hU hP hQ hB hF hal hah hsv hfv hhv hR
        go_wp2_with fail
        refine (CA.out _ HBi.out).mono ?_
        rintro e w3 ⟨rfl, hb3⟩
        have HB3 := Lib.hid hb3
        have HP3 := Lib.hid (HPi.out.below HB3.out pl)
        have HQ3 := Lib.hid (HQi.out.below HB3.out ql)
        have hz3 := HB3.out.size
        have p3 := HP3.out.lt
        have q3 := HQ3.out.lt
        clear hb3 y1 yh
        go_wp2_with fail
        refine (CR.out _).mono ?_
        rintro e w4 ⟨rfl, hb4⟩
        have HAl := Lib.hid ((Below.refl w3.heap.size w3).alloc (Nat.le_refl _) (.cells #[.int .i64 al, .int .i64 ah] 37))
        have HB4 := Lib.hid (HAl.out.trans (hb4.mono HAl.out.size))
        have HT4 : Blk w4 w3.heap.size 37 #[.int .i64 al, .int .i64 ah] := (Blk.new w3 _ _).below hb4 (by simp)
        have HP4 := Lib.hid (HP3.out.below HB4.out p3)
        have HQ4 := Lib.hid (HQ3.out.below HB4.out q3)
        have HBw4 := Lib.hid ((HBi.out.trans (HB3.out.mono hzr)).trans (HB4.out.mono (by omega)))
        have t0 : w4.cell? ⟨w3.heap.size, 0, none⟩ = some (.int .i64 al) := HT4.cell 0
        have t1 : w4.cell? ⟨w3.heap.size, 1, none⟩ = some (.int .i64 ah) := HT4.cell 1
        have z0 : w4.cell? ⟨q, i, none⟩ = some (.bool (if i < i then hasAt s i else decide (i = s.id))) := HQ4.out.bat (partC_get (by rw [HN.out]; exact d1))
        have zf : w4.frozen? ⟨q, i, none⟩ = false := HQ4.out.fz i
        have s0 : w4.cell? ⟨w.heap.size, i * 2, none⟩ = some (.int .i64 0) := HP4.out.sat0 (by rw [partS_get (by rw [HN.out]; exact d1), if_neg (by omega)])
        have s1 : w4.cell? ⟨w.heap.size, i * 2 + 1, none⟩ = some (.int .i64 0) := HP4.out.sat1 (by rw [partS_get (by rw [HN.out]; exact d1), if_neg (by omega)])
        have sf0 : w4.frozen? ⟨w.heap.size, i * 2, none⟩ = false := HP4.out.fz _
        have sf1 : w4.frozen? ⟨w.heap.size, i * 2 + 1, none⟩ = false := HP4.out.fz _
        have p4 := HP4.out.lt
        have q4 := HQ4.out.lt
        clear hb4 HT4 HP3 HQ3 HPi HQi CA CR
        cases R
        · have HT := Lib.hid (HF3.out rfl)
          have e1 := Lib.hid (show tellS s here = [] by unfold tellS; rw [HT.out]; rfl)
          have e2 := Lib.hid (show tellB s here = [] by unfold tellB; rw [HT.out]; rfl)
          clear HF2 HF3
          go_wp2_with fail
          refine bodyPost_ret (v := .tuple #[.slice none 0 0, .slice none 0 0, .int .i64 1]) (by simp [results, Tryd.results10, go_sem]) rfl ?_
          exact ⟨none, 0, 0, none, 0, 0, by rw [HT.out], by rw [e1.out]; exact recs_nil _ _ _ _, by rw [e2.out]; exact bools_nil _, HBw4.out, fun x e => (by cases e), fun x e => (by cases e)⟩
        · have HFn := Lib.hid (HF2.out rfl)
          clear HF2 HF3
          go_wp2_with fail
          go_roundw
          case rel =>
            have hBB := HBw4.out
            refine ⟨i + 1, by go_num, by omega, ?_, ?_, (by repeat (first | with_reducible exact Below.refl _ _ | (with_reducible refine Below.alloc ?_ (by first | omega | (simp; done) | (simp; omega)) _) | (with_reducible refine Below.setCell ?_ (by first | omega | (simp; done) | (simp; omega)) _) | (with_reducible refine Below.drew ?_) | (with_reducible refine below_drewN ?_ _) | (with_reducible assumption) | (with_reducible refine bel_step (by with_reducible assumption) ?_ (by first | omega | (simp; done) | (simp; omega))))), HFn.out⟩
            · rw [← HS1.out]; exact (HP4.out.sset i al ah).far (p := ⟨q, i, none⟩) hpq _
            · rw [← HS2.out]; exact ((HQ4.out.far (p := ⟨w.heap.size, i * 2, none⟩) (fun e => hpq e.symm) _).far (p := ⟨w.heap.size, i * 2 + 1, none⟩) (fun e => hpq e.symm) _).bset i true
          case measure => go_light; simp [intOf]; omega
    · obtain rfl : i = N := by omega
      have HT := Lib.hid (tell_ok HB.out (by rw [HN.out]; exact HF.out))
      have e1 := Lib.hid (partS_all HT.out)
      have e2 := Lib.hid (partC_all HT.out)
      rw [HN.out] at e1 e2
      have hRS := HPi.out.spans (by rw [partS_len, HN.out]) (by unfold maxLen; omega) (spans_ok HU.out.ok HB.out i)
      have hRB := HQi.out.bools (by rw [partC_len, HN.out]) (by unfold maxLen; omega)
      rw [e1.out] at hRS
      rw [e2.out] at hRB
      have HRS := Lib.hid hRS
      have HRB := Lib.hid hRB
      clear hU hP hQ hB hF hRS hRB
      go_wp2_with fail
      refine bodyPost_ret (v := .tuple #[.slice (some ⟨w.heap.size, 0, none⟩) i i, .slice (some ⟨q, 0, none⟩) i i, .int .i64 0]) (by simp [results, Tryd.results10, go_sem]) rfl ?_
      exact ⟨_, _, _, _, _, _, by rw [HT.out], HRS.out, HRB.out, HBi.out, fun x e => (by cases e; exact Nat.le_refl _), fun x e => (by cases e; exact hpp)⟩
theorem r2_Spans (M : Nat) (s : NSt) (here : Int) (w : World) (h : RNodeAt w M s) :
    Calls Tryd.prog 10 #[.pointer (some ⟨M, 0, none⟩), .int .i64 here] w fun e w' => SpansToldR w w' e (tellS s here) (tellB s here) (tellC s here) := by
  cases hb : s.backB here
  · exact r2_Spans_on M s here w h hb
  · exact r2_Spans_back M s here w h hb
end Go.Proofs.YtlkekkpknmbobaaDoor
