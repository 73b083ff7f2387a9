/- Package node: what is told of all, as spans, walked. -/
import Derived.Test.YtfjpfkejajgkbaaDoorHNodeH
import Derived.Test.YtfjpfkejajgkbaaDoorHG1
import Derived.Test.YtfjpfkejajgkbaaDoorHMat2
import Derived.Deep.Light
namespace Go.Proofs.YtfjpfkejajgkbaaDoor
open Go.RowKit
set_option linter.unusedVariables false
set_option linter.unusedSimpArgs false
/-- two slices and an error: what is told. -/
def SpansTold (w w' : World) (e : Ending) (S : List RSpan) (H : List Bool) (c : Int) : Prop :=
  ∃ A n k B m d, e = .returned (.tuple #[.slice A n k, .slice B m d, errV c]) ∧ IsRecs w' RSpan.cells RSpan.ok 2 A n k S ∧ IsBools w' B m d H ∧ Below w.heap.size w w' ∧ (∀ x, A = some x → w.heap.size ≤ x.block) ∧ (∀ x, B = some x → w.heap.size ≤ x.block)
set_option maxRecDepth 100000 in
set_option maxHeartbeats 4000000 in
theorem node_Spans_back (g mb K : Nat) (s : NSt) (here : Int) (w : World) (h : NodeAt w g mb K s) (hb : s.backB here = true) :
    Calls Tryd.prog 76 #[.pointer (some ⟨g, 0, none⟩), .int .i64 here] w fun e w' => SpansTold w w' e (tellS s here) (tellB s here) (tellC s here) := by
  have HT := Lib.hid (tell_back hb)
  have CB := Lib.hid (fun w' (hb' : Below w.heap.size w w') => by have := node_back g mb K s here w' (h.below hb'); rw [hb] at this; exact this)
  have e1 := Lib.hid (show tellS s here = [] by unfold tellS; rw [HT.out]; rfl)
  have e2 := Lib.hid (show tellB s here = [] by unfold tellB; rw [HT.out]; rfl)
  clear h hb
  go_enter Tryd.func76, Tryd.ntmps76
  go_wp2_with fail
  refine (CB.out _ (by exact (by repeat (first | with_reducible exact Below.refl _ _ | (with_reducible refine Below.alloc ?_ (by first | omega | (simp; done) | (simp; omega)) _) | (with_reducible refine Below.setCell ?_ (by first | omega | (simp; done) | (simp; omega)) _) | (with_reducible refine Below.drew ?_) | (with_reducible refine below_drewN ?_ _) | (with_reducible assumption) | (with_reducible refine bel_step (by with_reducible assumption) ?_ (by first | omega | (simp; done) | (simp; omega))))))).mono ?_
  rintro e w' ⟨rfl, rfl⟩
  go_wp2_with fail
  refine bodyPost_ret (v := .tuple #[.slice none 0 0, .slice none 0 0, .iface 87 (.int .i64 8)]) (by simp [results, Tryd.results76, go_sem]) rfl ?_
  exact ⟨none, 0, 0, none, 0, 0, by rw [HT.out]; rfl, by rw [e1.out]; exact recs_nil _ _ _ _, by rw [e2.out]; exact bools_nil _, (by repeat (first | with_reducible exact Below.refl _ _ | (with_reducible refine Below.alloc ?_ (by first | omega | (simp; done) | (simp; omega)) _) | (with_reducible refine Below.setCell ?_ (by first | omega | (simp; done) | (simp; omega)) _) | (with_reducible refine Below.drew ?_) | (with_reducible refine below_drewN ?_ _) | (with_reducible assumption) | (with_reducible refine bel_step (by with_reducible assumption) ?_ (by first | omega | (simp; done) | (simp; omega))))), fun x e => (by cases e), fun x e => (by cases e)⟩
set_option maxRecDepth 100000 in
set_option maxHeartbeats 8000000 in
theorem node_Spans_on (g mb K : Nat) (s : NSt) (here : Int) (w : World) (h : NodeAt w g mb K s) (hb : s.backB here = false) :
    Calls Tryd.prog 76 #[.pointer (some ⟨g, 0, none⟩), .int .i64 here] w fun e w' => SpansTold w w' e (tellS s here) (tellB s here) (tellC s here) := by
  have HU := Lib.hid h
  have HB := Lib.hid hb
  have CB := Lib.hid (fun w' (hb' : Below w.heap.size w w') => by have := node_back g mb K s here w' (h.below hb'); rw [hb] at this; exact this)
  have n1 := h.ok.n1
  have n6 := h.ok.n6
  have c1 := h.blk.cell 1
  have kl := h.blk.lt
  simp at c1
  obtain ⟨N, hN⟩ : ∃ N, s.N = N := ⟨_, rfl⟩
  rw [hN] at c1 n1 n6
  have HN := Lib.hid hN
  have mk3 := make_spans N (by omega)
  have mk4 := run_make_row' (P := Tryd.prog) 68 4 (.bool false) 1 Tryd.underlying68 infoB rfl .i64 .i64 N (by omega) (by omega)
  rw [made_b] at mk4
  clear h hb hN
  go_enter Tryd.func76, Tryd.ntmps76
  go_wp2_with fail
  refine (CB.out _ (by exact (by repeat (first | with_reducible exact Below.refl _ _ | (with_reducible refine Below.alloc ?_ (by first | omega | (simp; done) | (simp; omega)) _) | (with_reducible refine Below.setCell ?_ (by first | omega | (simp; done) | (simp; omega)) _) | (with_reducible refine Below.drew ?_) | (with_reducible refine below_drewN ?_ _) | (with_reducible assumption) | (with_reducible refine bel_step (by with_reducible assumption) ?_ (by first | omega | (simp; done) | (simp; omega))))))).mono ?_
  rintro e w' ⟨rfl, rfl⟩
  go_wp2_with fail
  go_cut [7, 8] (fun u v wx => ∃ p q, u = .slice (some ⟨p, 0, none⟩) N N ∧ v = .slice (some ⟨q, 0, none⟩) N N ∧ p ≠ q ∧ w.heap.size ≤ p ∧ w.heap.size ≤ q ∧ Blk wx p 41 (SCells (partS s here 0)) ∧ Blk wx q 4 (BCells (partB s 0)) ∧ Below w.heap.size w wx)
  case first =>
    have e0 := partS_0 s here
    have e1 := partB_0 s
    rw [HN.out] at e0 e1
    have E0 := Lib.hid e0
    have E1 := Lib.hid e1
    clear e0 e1
    go_region
    all_goals
      go_wp2_with fail
      go_meet
      case rel =>
        refine ⟨_, _, rfl, rfl, by first | omega | (simp; done), by first | omega | (simp; done), by first | omega | (simp; done), ?_, ?_, (by repeat (first | with_reducible exact Below.refl _ _ | (with_reducible refine Below.alloc ?_ (by first | omega | (simp; done) | (simp; omega)) _) | (with_reducible refine Below.setCell ?_ (by first | omega | (simp; done) | (simp; omega)) _) | (with_reducible refine Below.drew ?_) | (with_reducible refine below_drewN ?_ _) | (with_reducible assumption) | (with_reducible refine bel_step (by with_reducible assumption) ?_ (by first | omega | (simp; done) | (simp; omega)))))⟩
        · rw [E0.out]; exact (by refine BlkG.start ?_; (repeat (first | ((with_reducible apply BlkG.done); (with_reducible assumption); exact rfl) | (with_reducible exact BlkG.newAt (by first | (with_reducible rfl) | omega | (simp; done) | (simp; omega)) rfl) | (with_reducible refine BlkG.drew ?_) | (with_reducible refine BlkG.drewN ?_) | (with_reducible refine BlkG.set ?_) | (with_reducible refine BlkG.far (by first | omega | (simp; done) | (simp; omega)) ?_) | (with_reducible refine BlkG.alloc ?_) | (with_reducible refine BlkG.bel (by with_reducible assumption) (by first | omega | (simp; done) | (simp; omega)) ?_))))
        · rw [E1.out]; exact (by refine BlkG.start ?_; (repeat (first | ((with_reducible apply BlkG.done); (with_reducible assumption); exact rfl) | (with_reducible exact BlkG.newAt (by first | (with_reducible rfl) | omega | (simp; done) | (simp; omega)) rfl) | (with_reducible refine BlkG.drew ?_) | (with_reducible refine BlkG.drewN ?_) | (with_reducible refine BlkG.set ?_) | (with_reducible refine BlkG.far (by first | omega | (simp; done) | (simp; omega)) ?_) | (with_reducible refine BlkG.alloc ?_) | (with_reducible refine BlkG.bel (by with_reducible assumption) (by first | omega | (simp; done) | (simp; omega)) ?_))))
  case rest =>
  obtain ⟨p, q, rfl, rfl, hpq, hp, hq, hbp, hbq, hB⟩ := hcut
  have HP := Lib.hid hbp
  have HQ := Lib.hid hbq
  have HB1 := Lib.hid hB
  have y1 : wc.cell? ⟨g, 1, none⟩ = some (.int .i64 N) := (hB.cell (p := ⟨g, 1, none⟩) kl).trans c1
  clear hbp hbq hB mk3 mk4 c1
  go_wp2_with fail
  go_loopw [31] (fun iv wr => ∃ i : Nat, iv = .int .i64 i ∧ i ≤ N ∧ Blk wr p 41 (SCells (partS s here i)) ∧ Blk wr q 4 (BCells (partB s i)) ∧ Below w.heap.size w wr ∧ ∀ j, j < i → farAt s here j = false) (fun iv _ => N - (intOf iv).toNat)
  case atStart => exact ⟨0, rfl, by omega, HP.out, HQ.out, HB1.out, fun j hj => absurd hj (by omega)⟩
  case round =>
    obtain ⟨i, rfl, hi, hP, hQ, hB, hF⟩ := hrel
    have HPi := Lib.hid hP
    have HQi := Lib.hid hQ
    have HBi := Lib.hid hB
    have HF := Lib.hid hF
    have pl := hP.lt
    have ql := hQ.lt
    have hzr := hB.size
    have kl2 : g < wr.heap.size := by omega
    have hU := HU.out.below hB
    have y0 : wr.cell? ⟨g, 0, none⟩ = some (.int .i64 s.id) := hU.blk.cell 0
    have y4 : wr.cell? ⟨g, 4, none⟩ = some (.map (some mb)) := hU.blk.cell 4
    by_cases d1 : i < N
    · have hx := wf_i64 (show -9223372036854775808 ≤ (i : Int) ∧ (i : Int) ≤ 9223372036854775807 by omega)
      have hl := hU.mp.look (t := 135) (e := 141) Tryd.underlying3 Tryd.underlying135 (z := .agg #[.int .i64 0, .int .i64 0, .int .i64 0]) (by kernel_rfl) hx
      have z0 : wr.cell? ⟨q, i, none⟩ = some (.bool false) := hQ.bat (by rw [partB_get (by rw [HN.out]; exact d1), if_neg (by omega)])
      have zf : wr.frozen? ⟨q, i, none⟩ = false := hQ.fz i
      have g1 : (i : Int) < (N : Int) := by omega
      cases hf : s.f i with
      | none =>
        rw [hf] at hl
        simp only [Option.map_none, Option.getD_none, Option.isSome_none] at hl
        have hbv : ((i : Int) == (s.id : Int)) = hasAt s i := by
          unfold hasAt
          rw [hf]
          by_cases e : i = s.id
          · simp [e]
          · simp [e]; omega
        have HS1 := Lib.hid (partS_skip (here := here) hf)
        have HS2 := Lib.hid (partB_set (s := s) (show i < s.N by rw [HN.out]; exact d1))
        have HF2 := Lib.hid (show ∀ j, j < i + 1 → farAt s here j = false from fun j hj => by
          by_cases e : j < i
          · exact HF.out j e
          · have : j = i := by omega
            subst this; unfold farAt; rw [hf])
        obtain ⟨bv, hbv2⟩ : ∃ b, hasAt s i = b := ⟨_, rfl⟩
        rw [hbv2] at hbv HS2
        clear hf hU hP hQ hB hF hx hbv2
        go_wp2_with fail
        go_roundw
        case rel =>
          have hBB := HBi.out
          refine ⟨i + 1, by go_num, by omega, ?_, ?_, (by repeat (first | with_reducible exact Below.refl _ _ | (with_reducible refine Below.alloc ?_ (by first | omega | (simp; done) | (simp; omega)) _) | (with_reducible refine Below.setCell ?_ (by first | omega | (simp; done) | (simp; omega)) _) | (with_reducible refine Below.drew ?_) | (with_reducible refine below_drewN ?_ _) | (with_reducible assumption) | (with_reducible refine bel_step (by with_reducible assumption) ?_ (by first | omega | (simp; done) | (simp; omega))))), HF2.out⟩
          · rw [HS1.out]; exact (HPi.out.far (p := ⟨q, i, none⟩) hpq _).alloc _
          · rw [← HS2.out]; exact (HQi.out.bset i bv).alloc _
        case measure => go_light; simp [intOf]; omega
      | some k =>
        rw [hf] at hl
        simp only [Option.map_some, Option.getD_some, Option.isSome_some, Kn.val] at hl
        have CA := Lib.hid (fun W (hb' : Below w.heap.size w W) => node_aged g mb K s i here k W (HU.out.below hb') hf HB.out)
        have hsv : spanAt s here i = ⟨ageL k s.p here, ageH k s.p here⟩ := by unfold spanAt; rw [hf]
        have hfv : farAt s here i = !rightB (ageL k s.p here) (ageH k s.p here) := by unfold farAt; rw [hf]
        have hhv : hasAt s i = true := by unfold hasAt; rw [hf]
        have HS1 := Lib.hid (partS_set (s := s) (here := here) (show i < s.N by rw [HN.out]; exact d1))
        have HS2 := Lib.hid (partB_set (s := s) (show i < s.N by rw [HN.out]; exact d1))
        obtain ⟨al, hal⟩ : ∃ v, ageL k s.p here = v := ⟨_, rfl⟩
        obtain ⟨ah, hah⟩ : ∃ v, ageH k s.p here = v := ⟨_, rfl⟩
        rw [hal, hah] at CA hsv hfv
        rw [hsv] at HS1
        rw [hhv] at HS2
        have CR := Lib.hid (fun W => Right_any al ah W)
        have s0 : wr.cell? ⟨p, i * 2, none⟩ = some (.int .i64 0) := hP.sat0 (by rw [partS_get (by rw [HN.out]; exact d1), if_neg (by omega)])
        have s1 : wr.cell? ⟨p, i * 2 + 1, none⟩ = some (.int .i64 0) := hP.sat1 (by rw [partS_get (by rw [HN.out]; exact d1), if_neg (by omega)])
        have sf0 : wr.frozen? ⟨p, i * 2, none⟩ = false := hP.fz _
        have sf1 : wr.frozen? ⟨p, i * 2 + 1, none⟩ = false := hP.fz _
        obtain ⟨R, hR⟩ : ∃ b, rightB al ah = b := ⟨_, rfl⟩
        rw [hR] at CR hfv
        have HF2 := Lib.hid (show R = true → ∀ j, j < i + 1 → farAt s here j = false from fun hr j hj => by
          by_cases e : j < i
          · exact HF.out j e
          · have : j = i := by omega
            subst this; rw [hfv, hr]; rfl)
        have HF3 := Lib.hid (show R = false → tellC s here = 1 from fun hr => tell_far HB.out (show i < s.N by rw [HN.out]; exact d1) (by rw [hfv, hr]; rfl))
        clear hf hU hP hQ hB hF hx hal hah hsv hfv hhv hR
        go_wp2_with fail
        refine (CA.out _ (HBi.out.alloc (by omega) _)).mono ?_
        rintro e w3 ⟨rfl, hb3⟩
        have HB3 := Lib.hid ((Below.refl wr.heap.size wr).alloc (Nat.le_refl _) (.cells #[.int .i64 k.lo, .int .i64 k.hi, .int .i64 k.at_] 141) |>.trans (hb3.mono (by simp)))
        have HP3 := Lib.hid (HPi.out.below HB3.out pl)
        have HQ3 := Lib.hid (HQi.out.below HB3.out ql)
        have hz3 := HB3.out.size
        have p3 := HP3.out.lt
        have q3 := HQ3.out.lt
        clear hb3 z0 zf s0 s1 sf0 sf1 y0 y4
        go_wp2_with fail
        refine (CR.out _).mono ?_
        rintro e w4 ⟨rfl, hb4⟩
        have HAl := Lib.hid ((Below.refl w3.heap.size w3).alloc (Nat.le_refl _) (.cells #[.int .i64 al, .int .i64 ah] 41))
        have HB4 := Lib.hid (HAl.out.trans (hb4.mono HAl.out.size))
        have HT4 : Blk w4 w3.heap.size 41 #[.int .i64 al, .int .i64 ah] := (Blk.new w3 _ _).below hb4 (by simp)
        have HP4 := Lib.hid (HP3.out.below HB4.out p3)
        have HQ4 := Lib.hid (HQ3.out.below HB4.out q3)
        have HBw4 := Lib.hid ((HBi.out.trans (HB3.out.mono hzr)).trans (HB4.out.mono (by omega)))
        have t0 : w4.cell? ⟨w3.heap.size, 0, none⟩ = some (.int .i64 al) := HT4.cell 0
        have t1 : w4.cell? ⟨w3.heap.size, 1, none⟩ = some (.int .i64 ah) := HT4.cell 1
        have z0 : w4.cell? ⟨q, i, none⟩ = some (.bool false) := HQ4.out.bat (by rw [partB_get (by rw [HN.out]; exact d1), if_neg (by omega)])
        have zf : w4.frozen? ⟨q, i, none⟩ = false := HQ4.out.fz i
        have s0 : w4.cell? ⟨p, i * 2, none⟩ = some (.int .i64 0) := HP4.out.sat0 (by rw [partS_get (by rw [HN.out]; exact d1), if_neg (by omega)])
        have s1 : w4.cell? ⟨p, i * 2 + 1, none⟩ = some (.int .i64 0) := HP4.out.sat1 (by rw [partS_get (by rw [HN.out]; exact d1), if_neg (by omega)])
        have sf0 : w4.frozen? ⟨p, i * 2, none⟩ = false := HP4.out.fz _
        have sf1 : w4.frozen? ⟨p, i * 2 + 1, none⟩ = false := HP4.out.fz _
        have p4 := HP4.out.lt
        have q4 := HQ4.out.lt
        clear hb4 HT4 HP3 HQ3 HPi HQi CA CR
        cases R
        · have HT := Lib.hid (HF3.out rfl)
          have e1 := Lib.hid (show tellS s here = [] by unfold tellS; rw [HT.out]; rfl)
          have e2 := Lib.hid (show tellB s here = [] by unfold tellB; rw [HT.out]; rfl)
          clear HF2 HF3
          go_wp2_with fail
          refine bodyPost_ret (v := .tuple #[.slice none 0 0, .slice none 0 0, .iface 87 (.int .i64 1)]) (by simp [results, Tryd.results76, go_sem]) rfl ?_
          exact ⟨none, 0, 0, none, 0, 0, by rw [HT.out]; rfl, by rw [e1.out]; exact recs_nil _ _ _ _, by rw [e2.out]; exact bools_nil _, HBw4.out, fun x e => (by cases e), fun x e => (by cases e)⟩
        · have HFn := Lib.hid (HF2.out rfl)
          clear HF2 HF3
          go_wp2_with fail
          go_roundw
          case rel =>
            have hBB := HBw4.out
            refine ⟨i + 1, by go_num, by omega, ?_, ?_, (by repeat (first | with_reducible exact Below.refl _ _ | (with_reducible refine Below.alloc ?_ (by first | omega | (simp; done) | (simp; omega)) _) | (with_reducible refine Below.setCell ?_ (by first | omega | (simp; done) | (simp; omega)) _) | (with_reducible refine Below.drew ?_) | (with_reducible refine below_drewN ?_ _) | (with_reducible assumption) | (with_reducible refine bel_step (by with_reducible assumption) ?_ (by first | omega | (simp; done) | (simp; omega))))), HFn.out⟩
            · rw [← HS1.out]; exact (HP4.out.sset i al ah).far (p := ⟨q, i, none⟩) hpq _
            · rw [← HS2.out]; exact ((HQ4.out.far (p := ⟨p, i * 2, none⟩) (fun e => hpq e.symm) _).far (p := ⟨p, i * 2 + 1, none⟩) (fun e => hpq e.symm) _).bset i true
          case measure => go_light; simp [intOf]; omega
    · obtain rfl : i = N := by omega
      have HT := Lib.hid (tell_ok HB.out (by rw [HN.out]; exact HF.out))
      have e1 := Lib.hid (partS_all HT.out)
      have e2 := Lib.hid (partB_all HT.out)
      rw [HN.out] at e1 e2
      have hRS := HPi.out.spans (by rw [partS_len, HN.out]) (by unfold maxLen; omega) (spans_ok HU.out.ok HB.out i)
      have hRB := HQi.out.bools (by rw [partB_len, HN.out]) (by unfold maxLen; omega)
      rw [e1.out] at hRS
      rw [e2.out] at hRB
      have HRS := Lib.hid hRS
      have HRB := Lib.hid hRB
      clear hU hP hQ hB hF hRS hRB
      go_wp2_with fail
      refine bodyPost_ret (v := .tuple #[.slice (some ⟨p, 0, none⟩) i i, .slice (some ⟨q, 0, none⟩) i i, .nilIface]) (by simp [results, Tryd.results76, go_sem]) rfl ?_
      exact ⟨_, _, _, _, _, _, by rw [HT.out]; rfl, HRS.out, HRB.out, HBi.out, fun x e => (by cases e; exact hp), fun x e => (by cases e; exact hq)⟩
theorem node_Spans (g mb K : Nat) (s : NSt) (here : Int) (w : World) (h : NodeAt w g mb K s) :
    Calls Tryd.prog 76 #[.pointer (some ⟨g, 0, none⟩), .int .i64 here] w fun e w' => SpansTold w w' e (tellS s here) (tellB s here) (tellC s here) := by
  cases hb : s.backB here
  · exact node_Spans_on g mb K s here w h hb
  · exact node_Spans_back g mb K s here w h hb
end Go.Proofs.YtfjpfkejajgkbaaDoor
