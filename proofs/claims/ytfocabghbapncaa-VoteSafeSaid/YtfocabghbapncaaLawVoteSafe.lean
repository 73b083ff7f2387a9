/- Proved: noonlaw1.VoteSafe answers true for every input and leaves its arguments as they were. No condition. -/
import Derived.Test.YtfocabghbapncaaOpen
import Derived.Test.YtfocabghbapncaaVoteQ
import Derived.Deep.DeepCutAuto
import Derived.Deep.CutBlock
import Derived.Deep.Light
import Derived.Deep.DeepCutAuto
import Derived.Deep.CutBlock
import Derived.Deep.Light
namespace Go.Proofs.Ytfocabghbapncaa.lVoteSafe
open Go.ChangeShapes Go.WideShapes Go.ChangeAt Go.RowKit
set_option linter.unusedVariables false
set_option linter.unusedSimpArgs false
theorem lit3 (w : World) (T : TypeId) : IsRecs (w.alloc (.cells #[.int .i64 1, .int .i64 5, .int .i64 3, .int .i64 9, .int .i64 20, .int .i64 30] T)) RSpan.cells RSpan.ok 2 (some ⟨w.heap.size, 0, none⟩) 3 3 three := by
  refine ⟨rfl, by omega, by unfold maxLen; omega, ?_, fun _ => ⟨w.heap.size, 0, rfl, by simp, ?_⟩⟩
  · intro z hz
    simp only [three, List.mem_cons, List.not_mem_nil, or_false] at hz
    rcases hz with rfl | rfl | rfl <;> (unfold RSpan.ok i64B; simp only []; omega)
  · intro i z hz j u hu
    have hb := Blk.new w T #[.int .i64 1, .int .i64 5, .int .i64 3, .int .i64 9, .int .i64 20, .int .i64 30]
    rw [hb.cell]
    match i, hz with
    | 0, hz => simp [three] at hz; subst hz; match j, hu with
      | 0, hu => simpa [RSpan.cells] using hu
      | 1, hu => simpa [RSpan.cells] using hu
      | j + 2, hu => simp [RSpan.cells] at hu
    | 1, hz => simp [three] at hz; subst hz; match j, hu with
      | 0, hu => simpa [RSpan.cells] using hu
      | 1, hu => simpa [RSpan.cells] using hu
      | j + 2, hu => simp [RSpan.cells] at hu
    | 2, hz => simp [three] at hz; subst hz; match j, hu with
      | 0, hu => simpa [RSpan.cells] using hu
      | 1, hu => simpa [RSpan.cells] using hu
      | j + 2, hu => simp [RSpan.cells] at hu
    | i + 3, hz => simp [three] at hz
theorem cnt_snoc {zs : List RSpan} {k : Nat} {z : RSpan} (x : Int) (h : zs[k]? = some z) : cntS (zs.take (k + 1)) x = cntS (zs.take k) x + (if inS x z = true then 1 else 0) := by
  unfold cntS
  rw [List.take_add_one, h, List.countP_append]
  simp [List.countP_cons]
theorem has_in {z : RSpan} (x : Int) (h : spB z = true) : hasB z.lo z.hi x = inS x z := by
  unfold hasB inS
  rw [show rightB z.lo z.hi = true from h]; rfl
theorem cnt_all {zs : List RSpan} {x : Int} (h : cntS zs x = zs.length) : ∀ z ∈ zs, z.lo ≤ x ∧ x ≤ z.hi := by
  have := List.countP_eq_length.1 h
  intro z hz
  have h1 := this z hz
  unfold inS at h1
  simpa using h1
theorem has_span {lo hi x : Int} (h : -1000000000000 ≤ lo ∧ lo ≤ x ∧ x ≤ hi ∧ hi ≤ 1000000000000) : hasB lo hi x = true ∧ rightB lo hi = true := by
  have h1 : rightB lo hi = true := rightB_iff.2 (by omega)
  refine ⟨?_, h1⟩
  unfold hasB; rw [h1]; simp; omega
set_option maxRecDepth 100000 in
set_option maxHeartbeats 32000000 in
theorem walk (a0 : Option Addr) (n0 c0 : Nat) (z0 : List RSpan) (a1 : Int) (a2 : Int) (w : World) (h0 : IsRecs w RSpan.cells RSpan.ok 2 a0 n0 c0 z0) (h1 : -9223372036854775808 ≤ a1 ∧ a1 ≤ 9223372036854775807) (h2 : -9223372036854775808 ≤ a2 ∧ a2 ≤ 9223372036854775807) :
    Calls Try.prog 3 #[.slice a0 n0 c0, .int .i64 a1, .int .i64 a2] w fun e w' => e = .returned (.bool true) ∧ Below w.heap.size w w' := by
  have H0 := Lib.hid h0
  obtain ⟨l1, l2, l3, l4, l5⟩ := h0
  unfold maxLen at l3
  have L1 := Lib.hid l1
  have L5 := Lib.hid l5
  have CF := Lib.hid (vote_Safe (some ⟨w.heap.size, 0, none⟩) 3 3 1 three _ (lit3 w 24) rfl (by omega))
  have HB0 := Lib.hid (show Below w.heap.size w (w.alloc (.cells #[.int .i64 1, .int .i64 5, .int .i64 3, .int .i64 9, .int .i64 20, .int .i64 30] 24)) from (Below.refl _ w).alloc (Nat.le_refl _) _)
  clear l1 l4 l5
  go_enter Try.func3, Try.ntmps3
  go_wp2_with fail
  refine CF.out.mono ?_
  rintro e w1 ⟨es, fd, lo, hi, rfl, hp, hs, hf, hb1⟩
  obtain ⟨rfl, rfl, rfl⟩ : fd = true ∧ lo = 3 ∧ hi = 5 := by
    have := three_safe hp hs
    have h2 : safeF 2 (segsA es 5) = (fd, lo, hi) := hf
    rw [this] at h2
    simp only [Prod.mk.injEq] at h2
    exact ⟨h2.1.symm, h2.2.1.symm, h2.2.2.symm⟩
  have HB1 := Lib.hid (HB0.out.trans (hb1.mono (by simp)))
  have hz1 := HB1.out.size
  clear hp hs hf hb1 CF HB0
  go_wp2_with fail
  go_loopw [9, 10] (fun hv kv wr => ∃ k H : Nat, kv = .int .i64 k ∧ hv = .int .i64 (H : Int) ∧ k ≤ n0 ∧ H ≤ k ∧ H = cntS (z0.take k) a1 ∧ (∀ x ∈ z0.take k, spB x = true) ∧ Below w.heap.size w wr) (fun _ kv _ => n0 - (intOf kv).toNat)
  case atStart => exact ⟨0, 0, rfl, rfl, by omega, by omega, rfl, fun x hx => by simp at hx, by first | exact HB1.out.alloc hz1 _ | exact HB1.out⟩
  case round =>
    obtain ⟨k, H, rfl, rfl, hk, hHk, hH, hall, hB⟩ := hrel
    have HH := Lib.hid hH
    have HA := Lib.hid hall
    have HB := Lib.hid hB
    have hzw := hB.size
    clear hH hall HB1 hz1
    by_cases d1 : k < n0
    · obtain ⟨b, off, rfl, hb, hc⟩ := L5.out (by omega)
      obtain ⟨z, hz⟩ : ∃ z, z0[k]? = some z := ⟨_, List.getElem?_eq_getElem (by rw [L1.out]; omega)⟩
      have x0 : wr.cell? ⟨b, off + k * 2, none⟩ = some (.int .i64 z.lo) := (hB.cell (p := ⟨b, off + k * 2, none⟩) hb).trans (hc k z hz 0 _ rfl)
      have x1 : wr.cell? ⟨b, off + k * 2 + 1, none⟩ = some (.int .i64 z.hi) := (hB.cell (p := ⟨b, off + k * 2 + 1, none⟩) hb).trans (hc k z hz 1 _ rfl)
      have C := span_Has z.lo z.hi a1 wr
      have HCn := Lib.hid (cnt_snoc a1 hz)
      have HZ := Lib.hid hz
      clear hc hz hB
      cases e1 : spB z
      · rw [show rightB z.lo z.hi = false from e1, show errV (okC false) = .iface 36 (.int .i64 1) from errV_ne (by decide)] at C
        have HC := Lib.hid C
        clear C
        as_aux_lemma =>
          go_wp2_with fail
          refine HC.out.mono ?_
          rintro e w3 ⟨rfl, hb3⟩
          have HB3 := Lib.hid (HB.out.trans (hb3.mono hzw))
          clear hb3
          go_wp2_with fail
          go_ret
          exact ⟨rfl, HB3.out⟩
      · rw [has_in a1 e1, show rightB z.lo z.hi = true from e1, show errV (okC true) = .nilIface from rfl] at C
        have HA2 := Lib.hid (takeS_more (p := fun x => spB x = true) HZ.out HA.out e1)
        cases e2 : inS a1 z
        · rw [e2] at C HCn
          have HC := Lib.hid C
          have HN := Lib.hid (show H = cntS (z0.take (k + 1)) a1 by rw [HCn.out, ← HH.out]; rfl)
          clear C HCn
          as_aux_lemma =>
            go_wp2_with fail
            refine HC.out.mono ?_
            rintro e w3 ⟨rfl, hb3⟩
            have HB3 := Lib.hid (HB.out.trans (hb3.mono hzw))
            clear hb3
            go_wp2_with fail
            go_roundw
            case rel => exact ⟨k + 1, H, by go_num, rfl, by omega, by omega, HN.out, HA2.out, HB3.out⟩
            case measure => go_light; simp [intOf]; omega
        · rw [e2] at C HCn
          have HC := Lib.hid C
          have HN := Lib.hid (show H + 1 = cntS (z0.take (k + 1)) a1 by rw [HCn.out, ← HH.out]; rfl)
          clear C HCn
          as_aux_lemma =>
            go_wp2_with fail
            refine HC.out.mono ?_
            rintro e w3 ⟨rfl, hb3⟩
            have HB3 := Lib.hid (HB.out.trans (hb3.mono hzw))
            clear hb3
            go_wp2_with fail
            go_roundw
            case rel => exact ⟨k + 1, H + 1, by go_num, by go_num, by omega, by omega, HN.out, HA2.out, HB3.out⟩
            case measure => go_light; simp [intOf]; omega
    · obtain rfl : k = n0 := by omega
      have hall := HA.out
      rw [List.take_of_length_le (by rw [L1.out]; omega)] at hall
      have hH : H = cntS z0 a1 := by rw [HH.out, List.take_of_length_le (by rw [L1.out]; omega)]
      have HS := Lib.hid hall
      have HH2 := Lib.hid hH
      clear HH HA L5 hB hH
      by_cases e0 : spansC z0 = 0
      · as_aux_lemma =>
          obtain ⟨p1, p2, p3⟩ := spansC_0 e0
          rw [L1.out] at p1 p2
          have CMo := Lib.hid (fun w' (hb : Below w.heap.size w w') => vote_Most a0 k c0 z0 w' (H0.out.below hb) e0)
          have CMe := Lib.hid (fun (h : H = k) w' (hb : Below w.heap.size w w') => vote_Meet_in a0 k c0 z0 a1 w' (H0.out.below hb) e0 (cnt_all (by rw [← HH2.out, h, L1.out])))
          have CSa := Lib.hid (fun (h : 0 ≤ a2 ∧ a2 < (k : Int)) w' (hb : Below w.heap.size w w') => vote_Safe a0 k c0 a2 z0 w' (H0.out.below hb) e0 h)
          have PM := Lib.hid (fun es (hp : es.Perm (edgesL z0)) (hs : es.Pairwise (fun x y : RSpan => x.lo ≤ y.lo)) => show (H : Int) ≤ (mostF (segsA es (k * 2 - 1))).2.2 ∧ 1 ≤ (mostF (segsA es (k * 2 - 1))).2.2 from by
            have hl : es.length = k * 2 := by rw [hp.length_eq, edgesL_len, L1.out]
            have h1 := most_ge hp hs HS.out a1
            have h2 := most_pos hp hs HS.out (by rw [L1.out]; exact p2)
            rw [hl] at h1 h2
            rw [HH2.out]
            exact ⟨h1, h2⟩)
          have PS := Lib.hid (fun es (need : Int) (hp : es.Perm (edgesL z0)) (hs : es.Pairwise (fun x y : RSpan => x.lo ≤ y.lo)) (h1 : 1 ≤ need) (h2 : need ≤ (H : Int)) => show (safeF need (segsA es (k * 2 - 1))).1 = true ∧ (safeF need (segsA es (k * 2 - 1))).2.1 ≤ a1 ∧ a1 ≤ (safeF need (segsA es (k * 2 - 1))).2.2 from by
            have hl : es.length = k * 2 := by rw [hp.length_eq, edgesL_len, L1.out]
            have h3 := safe_in hp hs HS.out h1 (by rw [← HH2.out]; exact h2) (by omega)
            rw [hl] at h3
            exact h3)
          have PRt := Lib.hid (fun es (need : Int) (hp : es.Perm (edgesL z0)) (hs : es.Pairwise (fun x y : RSpan => x.lo ≤ y.lo)) (h : (safeF need (segsA es (k * 2 - 1))).1 = true) => show -1000000000000 ≤ (safeF need (segsA es (k * 2 - 1))).2.1 ∧ (safeF need (segsA es (k * 2 - 1))).2.2 ≤ 1000000000000 from by
            have hl : es.length = k * 2 := by rw [hp.length_eq, edgesL_len, L1.out]
            have h3 := safe_right hp hs HS.out (need := need) (by omega) (by rw [hl]; exact h)
            rw [hl] at h3
            exact h3)
          clear p3 e0 HS H0
          go_wp2_with fail
          refine (CMo.out _ HB.out).mono ?_
          rintro e w3 ⟨es, lo, hi, top, rfl, hp, hs, hm, hb3⟩
          obtain ⟨t1, t2⟩ := PM.out es hp hs
          rw [hm] at t1 t2
          simp only [] at t1 t2
          have HB3 := Lib.hid (HB.out.trans (hb3.mono hzw))
          have hz3 := HB3.out.size
          clear hp hs hm hb3 PM CMo
          have b1 : (top < (H : Int)) = False := by simp; omega
          have n1' : ¬ top < (H : Int) := by omega
          have n2' : ¬ top < 1 := by omega
          have d1' : decide (top < (H : Int)) = false := by simp; omega
          have d2' : decide (top < 1) = false := by simp; omega
          by_cases hH : H = k
          · as_aux_lemma =>
              have hH3 : ((H : Int) == (k : Int)) = true := by simp; omega
              have CM2 := Lib.hid (fun w' hb => CMe.out hH w' hb)
              clear CMe
              go_wp2_with fail
              refine (CM2.out _ (HB3.out.alloc hz3 _)).mono ?_
              rintro e w4 ⟨mlo, mhi, rfl, hmx, hb4⟩
              have HB4 := Lib.hid ((HB3.out.alloc hz3 _).trans (hb4.mono (by simp; omega)))
              have hz4 := HB4.out.size
              obtain ⟨s1, s2⟩ := has_span hmx
              have CH := Lib.hid (fun W' => by have := span_Has mlo mhi a1 W'; rw [s1, s2, show errV (okC true) = .nilIface from rfl] at this; exact this)
              clear hb4 hmx s1 s2 CM2
              go_wp2_with fail
              refine (CH.out _).mono ?_
              rintro e w6 ⟨rfl, hb6⟩
              have HB6 := Lib.hid ((HB4.out.alloc hz4 _).trans (hb6.mono (by simp; omega)))
              have hz6 := HB6.out.size
              clear hb6 CH
              rcases (by omega : a2 < 0 ∨ (¬ a2 < 0 ∧ (k : Int) ≤ a2) ∨ (¬ a2 < 0 ∧ ¬ (k : Int) ≤ a2 ∧ ¬ (H : Int) < (k : Int) - a2)) with g | ⟨g, g'⟩ | ⟨g, g', g2⟩
              · as_aux_lemma =>
                  go_wp2_with fail
                  go_ret
                  exact ⟨rfl, HB6.out⟩
              · as_aux_lemma =>
                  go_wp2_with fail
                  go_ret
                  exact ⟨rfl, HB6.out⟩
              · have hr : 0 ≤ a2 ∧ a2 < (k : Int) := by omega
                have CS2 := Lib.hid (fun w' (hb : Below w.heap.size w w') => (CSa.out hr w' hb).mono (R' := fun e w'' => ∃ slo shi : Int, e = .returned (.tuple #[.agg #[.int .i64 slo, .int .i64 shi], .nilIface]) ∧ (-1000000000000 ≤ slo ∧ slo ≤ a1 ∧ a1 ≤ shi ∧ shi ≤ 1000000000000) ∧ Below w'.heap.size w' w'') fun e w'' ⟨es, fd, slo, shi, he, hp, hs, hf, hb⟩ => by
                  obtain ⟨g1, g2, g3⟩ := PS.out es ((k : Int) - a2) hp hs (by omega) (by omega)
                  have g4 := PRt.out es ((k : Int) - a2) hp hs g1
                  rw [hf] at g1 g2 g3 g4
                  simp only [] at g1 g2 g3 g4
                  subst g1
                  exact ⟨slo, shi, by rw [he]; simp [errV_0], ⟨g4.1, g2, g3, g4.2⟩, hb⟩)
                have w9 := IntWalk.i64_in ((k : Int) - a2) (by omega)
                clear PS PRt CSa
                as_aux_lemma =>
                  go_wp2_with fail
                  refine (CS2.out _ HB6.out).mono ?_
                  rintro e w7 ⟨slo, shi, rfl, hmx, hb7⟩
                  have HB7 := Lib.hid (HB6.out.trans (hb7.mono hz6))
                  have hz7 := HB7.out.size
                  obtain ⟨s1, s2⟩ := has_span hmx
                  have CH := Lib.hid (fun W' => by have := span_Has slo shi a1 W'; rw [s1, s2, show errV (okC true) = .nilIface from rfl] at this; exact this)
                  clear hb7 hmx s1 s2 CS2
                  go_wp2_with fail
                  refine (CH.out _).mono ?_
                  rintro e w8 ⟨rfl, hb8⟩
                  have HB8 := Lib.hid ((HB7.out.alloc hz7 _).trans (hb8.mono (by simp; omega)))
                  clear hb8
                  go_wp2_with fail
                  go_ret
                  exact ⟨rfl, HB8.out⟩
          · have hH2 : ((H : Int) == (k : Int)) = false := by simp; omega
            rcases (by omega : a2 < 0 ∨ (¬ a2 < 0 ∧ (k : Int) ≤ a2) ∨ (¬ a2 < 0 ∧ ¬ (k : Int) ≤ a2 ∧ (H : Int) < (k : Int) - a2) ∨ (¬ a2 < 0 ∧ ¬ (k : Int) ≤ a2 ∧ ¬ (H : Int) < (k : Int) - a2)) with g | ⟨g, g'⟩ | ⟨g, g', g2⟩ | ⟨g, g', g2⟩
            · as_aux_lemma =>
                go_wp2_with fail
                go_ret
                exact ⟨rfl, HB3.out.alloc hz3 _⟩
            · as_aux_lemma =>
                go_wp2_with fail
                go_ret
                exact ⟨rfl, HB3.out.alloc hz3 _⟩
            · have w9 := IntWalk.i64_in ((k : Int) - a2) (by omega)
              as_aux_lemma =>
                go_wp2_with fail
                go_ret
                exact ⟨rfl, HB3.out.alloc hz3 _⟩
            · have hr : 0 ≤ a2 ∧ a2 < (k : Int) := by omega
              have CS2 := Lib.hid (fun w' (hb : Below w.heap.size w w') => (CSa.out hr w' hb).mono (R' := fun e w'' => ∃ slo shi : Int, e = .returned (.tuple #[.agg #[.int .i64 slo, .int .i64 shi], .nilIface]) ∧ (-1000000000000 ≤ slo ∧ slo ≤ a1 ∧ a1 ≤ shi ∧ shi ≤ 1000000000000) ∧ Below w'.heap.size w' w'') fun e w'' ⟨es, fd, slo, shi, he, hp, hs, hf, hb⟩ => by
                obtain ⟨g1, g2, g3⟩ := PS.out es ((k : Int) - a2) hp hs (by omega) (by omega)
                have g4 := PRt.out es ((k : Int) - a2) hp hs g1
                rw [hf] at g1 g2 g3 g4
                simp only [] at g1 g2 g3 g4
                subst g1
                exact ⟨slo, shi, by rw [he]; simp [errV_0], ⟨g4.1, g2, g3, g4.2⟩, hb⟩)
              have w9 := IntWalk.i64_in ((k : Int) - a2) (by omega)
              clear PS PRt CSa
              as_aux_lemma =>
                go_wp2_with fail
                refine (CS2.out _ (HB3.out.alloc hz3 _)).mono ?_
                rintro e w7 ⟨slo, shi, rfl, hmx, hb7⟩
                have HB7 := Lib.hid ((HB3.out.alloc hz3 _).trans (hb7.mono (by simp; omega)))
                have hz7 := HB7.out.size
                obtain ⟨s1, s2⟩ := has_span hmx
                have CH := Lib.hid (fun W' => by have := span_Has slo shi a1 W'; rw [s1, s2, show errV (okC true) = .nilIface from rfl] at this; exact this)
                clear hb7 hmx s1 s2 CS2
                go_wp2_with fail
                refine (CH.out _).mono ?_
                rintro e w8 ⟨rfl, hb8⟩
                have HB8 := Lib.hid ((HB7.out.alloc hz7 _).trans (hb8.mono (by simp; omega)))
                clear hb8
                go_wp2_with fail
                go_ret
                exact ⟨rfl, HB8.out⟩
      · as_aux_lemma =>
          have hk : k = 0 ∨ (¬ k = 0 ∧ (40 : Int) < (k : Int)) := by
            rcases spansC_cases L1.out with ⟨h, _⟩ | ⟨_, h, _⟩ | ⟨_, _, h, _⟩ | ⟨_, _, _, h⟩
            · omega
            · omega
            · rw [badS_no HS.out] at h; cases h
            · exact absurd h e0
          obtain ⟨E, hE⟩ : ∃ E, spansC z0 = E := ⟨_, rfl⟩
          rw [hE] at e0
          have CB := Lib.hid (fun w' (hb : Below w.heap.size w w') => vote_Most_bad a0 k c0 z0 w' (H0.out.below hb) E hE e0)
          clear H0 HS HH2
          rcases hk with rfl | ⟨hk, hk'⟩
          all_goals
            go_wp2_with fail
            refine (CB.out _ HB.out).mono ?_
            rintro e w3 ⟨rfl, hb3⟩
            have HB3 := Lib.hid (HB.out.trans (hb3.mono hzw))
            have hz3 := HB3.out.size
            clear hb3
            go_wp2_with fail
            go_ret
            exact ⟨rfl, by first | exact HB3.out.alloc hz3 _ | exact HB3.out⟩

set_option maxRecDepth 100000 in
theorem lifted (os : Os) (started : os.Started) (H : Type) (enc : TypeId × Value → H) :
    ReturnsInHanded {} Try.checked os 3 .any (Rows.voteSafeSpec.pre6 enc Try.prog Try.f3 Rows.voteSafeRow.domain false) (Rows.voteSafeSpec.post enc Try.prog Try.f3 false true false false) := by
  refine returnsInHanded_of_change (C := Try.checked) own started (by kernel_rfl) Try.func3
    (ChangeSpec.witness6 (enc := enc) (C := Try.checked) false ⟨#[], #[.slice none 0 0, .int .i64 0, .int .i64 0], []⟩ 8 (by kernel_rfl) (by kernel_rfl) (by kernel_rfl) (by kernel_rfl)) ?_
  intro W base args ds gs before hval0 hW hcnd hreach
  have hval : ∀ (j : Nat) t v, Try.f3.params[j]? = some t → args[j]? = some v → Value.okWide Try.prog W .any base t v := hval0
  have hW' := hW
  obtain ⟨p, q, hA0, hV, rfl, hfz, hnd⟩ := hW
  have hA : DataW.TrodAll enc Try.prog W 0 (fun _ => true) true Try.f3.params.toList args.toList ds p := hA0
  rw [Try.params3] at hA hval
  obtain ⟨v0, vs0, d0, ds0, p0, q0, hargs, rfl, rfl, g0, r0⟩ := trodAll_cons hA
  obtain ⟨v1, vs1, d1, ds1, p1, q1, rfl, rfl, rfl, g1, r1⟩ := trodAll_cons r0
  obtain ⟨v2, vs2, d2, ds2, p2, q2, rfl, rfl, rfl, g2, r2⟩ := trodAll_cons r1
  obtain ⟨rfl, rfl, rfl⟩ := trodAll_nil r2
  obtain rfl : args = #[v0, v1, v2] := by cases args; simp_all
  obtain ⟨rfl, rfl⟩ := trodVars_none hV
  have k0 := g0
  have lt0 : ∀ x ∈ p0, x.block < W.heap.size := by obtain ⟨m, hm⟩ := k0; exact DataW.trod_lt m _ _ _ hm
  have rd0 : Try.prog.readableRec 22 = true := by kernel_rfl
  have ls0 : 22 < Try.prog.types.size := of_decide_eq_true (by kernel_rfl)
  obtain ⟨a0, n0, c0, z0, rfl, h0⟩ := open_RSpans (hval 0 22 v0 rfl rfl) g0
  obtain ⟨a1, rfl, rfl, rfl, u1⟩ := open_int Try.underlying3 (hval 1 3 v1 rfl rfl) g1
  have h1 := bounds_i64 u1
  obtain ⟨a2, rfl, rfl, rfl, u2⟩ := open_int Try.underlying3 (hval 2 3 v2 rfl rfl) g2
  have h2 := bounds_i64 u2
  clear hA0 hval0
  refine (walk a0 n0 c0 z0 a1 a2 W h0 h1 h2).mono fun e W' ⟨he, bel⟩ => ?_
  subst he
  exact ⟨_, rfl, _, _, _, [], _, [], hW', trodAll_mk1 (shut_bool Try.underlying4 _), (trodAll_cons_mk (Below.trod laidOut rd0 ls0 k0 bel lt0) (trodAll_cons_mk (shut_int Try.underlying3 u1) (trodAll_cons_mk (shut_int Try.underlying3 u2) trodAll_mk0))), rfl, bel.frame _, fun h => by cases h⟩

theorem over : Rows.voteSafeRow.holds Try.pinned (OpenSpec.ofChange Rows.voteSafeSpec) :=
  OpenClaim.holds_of_wide 3 Try.f3 rfl rfl rfl rfl rfl rfl rfl ⟨rfl, rfl, rfl, rfl, rfl⟩ rfl rfl rfl rfl rfl (by kernel_rfl) Try.func3 (by kernel_rfl)
    (of_decide_eq_true (by kernel_rfl)) (by unfold Func.isWrapper; rw [if_neg (of_decide_eq_false (by kernel_rfl))]; exact ⟨rfl, rfl⟩)
    (fun os started H enc _ => lifted os started H enc)

/-- the statement -/
theorem proved : Rows.VoteSafeSaid := over

end Go.Proofs.Ytfocabghbapncaa.lVoteSafe
