/- Proved: noonlaw4.WorldUnder answers true for every input and leaves its arguments as they were. Its conditions: none beyond the tied card's own. -/
import Derived.Test.YtloniibmmajlbaaDoorDoor
import Derived.Test.YtloniibmmajlbaaDoorWorldA
import Derived.Test.YtloniibmmajlbaaDoorWorldC
import Derived.Test.YtloniibmmajlbaaDoorWorldF
import Derived.Test.YtloniibmmajlbaaDoorWorldT
import Derived.Deep.DeepCutAuto
import Derived.Deep.CutBlock
import Derived.Deep.Light
namespace Go.Proofs.YtloniibmmajlbaaDoor.lWorldUnder
open Go.ChangeShapes Go.WideShapes Go.ChangeAt Go.RowKit
set_option linter.unusedVariables false
set_option linter.unusedSimpArgs false
theorem pair_ints {w : World} {g : Nat} {T : TypeId} {a b : Int} (h : Blk w g T #[.int .i64 a, .int .i64 b]) (ha : i64B a) (hb : i64B b) : IsInts w (some ⟨g, 0, none⟩) 2 2 [a, b] := by
  refine ⟨rfl, by omega, by unfold maxLen; omega, ?_, fun _ => ⟨g, 0, rfl, h.lt, fun i z hz j u hj => ?_⟩⟩
  · intro z hz
    simp at hz
    rcases hz with rfl | rfl <;> assumption
  · have hj0 : j = 0 := by
      have := (List.getElem?_eq_some_iff.1 hj).1
      simp [intCells] at this; omega
    subst hj0
    simp [intCells] at hj
    subst hj
    have hi : i < 2 := (List.getElem?_eq_some_iff.1 hz).1
    have hc : i = 0 ∨ i = 1 := by omega
    rw [h.cell]
    rcases hc with rfl | rfl <;> simp at hz <;> subst hz <;> rfl
def L0 : RLetter := ⟨0, 1, false, 0, 0, readV 0 0 0⟩
def usN (k : Nat) : List RLetter := List.replicate (min k 40) L0
theorem usN_len (k : Nat) : (usN k).length = min k 40 := by simp [usN]
theorem usN_more {k : Nat} (h : k < 40) : usN k ++ [L0] = usN (k + 1) := by
  unfold usN
  rw [show min k 40 = k by omega, show min (k + 1) 40 = k + 1 by omega, List.replicate_succ']
theorem usN_full {k : Nat} (h : 40 ≤ k) : usN k = usN (k + 1) := by
  unfold usN
  rw [show min k 40 = 40 by omega, show min (k + 1) 40 = 40 by omega]
theorem kept_below {w w' : World} {g B n : Nat} {ss rs : List Int} {t : Int} {uv : Value} {us : List RLetter} (h : WorldU w g B n ss rs t uv us) (hk : Kept (Mine g uv) w w') {b : Nat} (hb : b ≤ g) : Below b w w' :=
  hk.toBelow (by have := h.gB; have := h.Bw; omega) (fun k e => by
    rcases e with e | e
    · omega
    · have := (h.low k e).1; have := h.gB; omega)
set_option maxRecDepth 100000 in
set_option maxHeartbeats 16000000 in
theorem good (n : Nat) (hn : n ≤ 45) (a1 : Int) (w : World) (hg : HandleAt w) :
    Calls Tryd.prog 3 #[.int .i64 (n : Int), .int .i64 a1] w fun e w' => e = .returned (.bool true) ∧ Below w.heap.size w w' := by
  have g1 : ¬ (n : Int) < 0 := by omega
  have g2 : ¬ (45 : Int) < (n : Int) := by omega
  have CEn := Lib.hid (fun (E : Int) (hE : E ≠ 0) w' (hb : Below w.heap.size w w') => show Calls Tryd.prog 7 #[.iface 55 (.int .i64 E), .int .i64 E] w' fun e w'' => e = .returned (.bool true) ∧ Below w'.heap.size w' w'' by have := Error_n E E hE w' (hg.below hb); simpa using this)
  have CE0 := Lib.hid (fun w' (hb : Below w.heap.size w w') => show Calls Tryd.prog 7 #[.nilIface, .int .i64 4] w' fun e w'' => e = .returned (.bool false) ∧ Below w'.heap.size w' w'' by have := Error_nil 4 w' (hg.below hb); simpa using this)
  clear hg
  go_enter Tryd.func3, Tryd.ntmps3
  go_wp2_with fail
  have I0 : IsInts ((w.alloc (.cells #[.int .i64 0, .int .i64 0] 3)).alloc (.cells #[.int .i64 0, .int .i64 0] 3)) (some ⟨w.heap.size, 0, none⟩) 2 2 [0, 0] := pair_ints ((Blk.new w _ _).alloc _) (by unfold i64B; omega) (by unfold i64B; omega)
  have I1 : IsInts ((w.alloc (.cells #[.int .i64 0, .int .i64 0] 3)).alloc (.cells #[.int .i64 0, .int .i64 0] 3)) (some ⟨w.heap.size + 1, 0, none⟩) 2 2 [0, 0] := pair_ints (T := 3) (by have := Blk.new (w.alloc (.cells #[.int .i64 0, .int .i64 0] 3)) 3 #[.int .i64 0, .int .i64 0]; simpa using this) (by unfold i64B; omega) (by unfold i64B; omega)
  refine (world_New_u _ _ _ [0, 0] _ _ _ [0, 0] 0 _ I0 I1 (by decide)).mono ?_
  rintro e w1 ⟨g, B, rfl, hgw, hw1, hb1⟩
  have v1 := hb1.size
  simp at hgw v1
  have HB1 := Lib.hid (show Below w.heap.size w w1 by exact (by repeat (first | with_reducible exact Below.refl _ _ | (with_reducible refine Below.alloc ?_ (by first | omega | (simp; done) | (simp; omega)) _) | (with_reducible refine Below.setCell ?_ (by first | omega | (simp; done) | (simp; omega)) _) | (with_reducible refine Below.drew ?_) | (with_reducible refine below_drewN ?_ _) | (with_reducible assumption) | (with_reducible refine bel_step (by with_reducible assumption) ?_ (by first | omega | (simp; done) | (simp; omega))))))
  have HW1 := Lib.hid hw1
  clear hw1 hb1 I0 I1
  go_wp2_with fail
  go_loopw [7] (fun iv wr => ∃ (k : Nat) (uv : Value), iv = .int .i64 k ∧ k ≤ n ∧ WorldU wr g B 2 [0, 0] [0, 0] 0 uv (usN k) ∧ Below w.heap.size w wr) (fun iv _ => n - (intOf iv).toNat)
  case atStart => exact ⟨0, _, rfl, by omega, HW1.out, HB1.out⟩
  case round =>
    obtain ⟨k, uv, rfl, hk, hW, hB⟩ := hrel
    have HW := Lib.hid hW
    have HB := Lib.hid hB
    have hzr := hB.size
    clear hW hB
    by_cases d1 : k < n
    · by_cases d2 : k < 40
      · have CA := Lib.hid (show Calls Tryd.prog 6 #[.pointer (some ⟨g, 0, none⟩), .agg #[.int .i64 2, .int .i64 0, .int .i64 1]] wr fun e w' => e = .returned (.tuple #[.pointer none, .nilIface]) ∧ Sent wr g B 2 [0, 0] [0, 0] 0 uv (usN (k + 1)) w' from by
          rw [← usN_more d2]
          exact world_Do_ask g B 2 [0, 0] [0, 0] 0 uv (usN k) 0 1 0 0 wr HW.out rfl rfl (by omega) (by omega) (by rw [usN_len]; omega))
        have e1 : (k : Int) < 40 := by omega
        have e2 : ¬ (40 : Int) ≤ (k : Int) := by omega
        as_aux_lemma =>
          go_wp2_with fail
          refine CA.out.mono ?_
          rintro e w2 ⟨rfl, uv2, hW2, hK2, _⟩
          have hB2 : Below w.heap.size w w2 := HB.out.trans (kept_below HW.out hK2 (by omega))
          have HW2 := Lib.hid hW2
          have hz2 := hB2.size
          clear hW2 hK2 CA
          go_wp2_with fail
          refine (CE0.out _ hB2).mono ?_
          rintro e w3 ⟨rfl, hb3⟩
          have HW3 := Lib.hid (HW2.out.below hb3)
          have HB3 := Lib.hid (hB2.trans (hb3.mono hz2))
          clear hb3
          go_wp2_with fail
          go_roundw
          case rel => exact ⟨k + 1, uv2, by go_num, by omega, HW3.out, HB3.out⟩
          case measure => go_light; simp [intOf]; omega
      · have CA := Lib.hid (show Calls Tryd.prog 6 #[.pointer (some ⟨g, 0, none⟩), .agg #[.int .i64 2, .int .i64 0, .int .i64 1]] wr fun e w' => e = .returned (.tuple #[.pointer none, .iface 55 (.int .i64 4)]) ∧ Below wr.heap.size wr w' from
          world_Do_full g B 2 [0, 0] [0, 0] 0 uv (usN k) 0 1 wr HW.out (by omega) (by omega) (by omega) (by rw [usN_len]; omega))
        have HU := Lib.hid (usN_full (k := k) (by omega))
        have CE4 := Lib.hid (fun w' hb => CEn.out 4 (by decide) w' hb)
        have e1 : ¬ (k : Int) < 40 := by omega
        have e2 : (40 : Int) ≤ (k : Int) := by omega
        as_aux_lemma =>
          go_wp2_with fail
          refine CA.out.mono ?_
          rintro e w2 ⟨rfl, hb2⟩
          have hB2 : Below w.heap.size w w2 := HB.out.trans (hb2.mono hzr)
          have HW2 := Lib.hid (HW.out.below hb2)
          have hz2 := hB2.size
          clear hb2 CA
          go_wp2_with fail
          refine (CE4.out _ hB2).mono ?_
          rintro e w3 ⟨rfl, hb3⟩
          have HW3 := Lib.hid (HW2.out.below hb3)
          have HB3 := Lib.hid (hB2.trans (hb3.mono hz2))
          clear hb3
          go_wp2_with fail
          go_roundw
          case rel => exact ⟨k + 1, uv, by go_num, by omega, by rw [← HU.out]; exact HW3.out, HB3.out⟩
          case measure => go_light; simp [intOf]; omega
    · obtain rfl : k = n := by omega
      have hl := usN_len k
      obtain ⟨us, hus⟩ : ∃ us, usN k = us := ⟨_, rfl⟩
      have HL := Lib.hid (fun (j : Nat) (hj : j < us.length) => show us[j]? = some L0 from by
        rw [← hus] at hj ⊢
        rw [usN_len] at hj
        unfold usN
        rw [List.getElem?_replicate, if_pos hj])
      rw [hus] at HW hl
      clear hus
      have CU := Lib.hid (world_Under g B 2 [0, 0] [0, 0] 0 uv us wr HW.out)
      go_wp2_with fail
      refine CU.out.mono ?_
      rintro e w2 ⟨A, c, rfl, c1, c2, _, hb2⟩
      have HB2 := Lib.hid (HB.out.trans (hb2.mono hzr))
      have HW2 := Lib.hid (HW.out.below hb2)
      have hz2 := HB2.out.size
      unfold maxLen at c2
      clear hb2 CU HB
      by_cases hr : a1 < 0 ∨ (us.length : Int) ≤ a1
      · have CN := Lib.hid (world_Do_none g B 2 [0, 0] [0, 0] 0 uv us 5 a1 0 w2 HW2.out (.inr (.inr rfl)) hr)
        have CE5 := Lib.hid (fun w' hb => CEn.out 5 (by decide) w' hb)
        have hd : (a1 < 0 ∨ (¬ a1 < 0 ∧ (us.length : Int) ≤ a1)) ∧ (us.length = k ∨ (us.length ≠ k ∧ 40 < k ∧ us.length = 40)) := by omega
        clear hr
        obtain ⟨hd1, hd2⟩ := hd
        have hb : ((us.length : Int) == (k : Int)) = true ∨ (((us.length : Int) == (k : Int)) = false ∧ (40 : Int) < (k : Int) ∧ ((us.length : Int) == 40) = true) := by
          rcases hd2 with h | ⟨h1, h2, h3⟩
          · left; simp; omega
          · right; refine ⟨by simp; omega, by omega, by simp; omega⟩
        clear hd2 HL CEn CE0 HW HW1 HB1 hl
        rcases hd1 with d | ⟨d, d'⟩ <;> rcases hb with m1 | ⟨m1, m2, m3⟩
        all_goals
          as_aux_lemma =>
            go_wp2_with fail
            refine CN.out.mono ?_
            rintro e w3 ⟨rfl, hb3⟩
            have HB3 := Lib.hid (HB2.out.trans (hb3.mono hz2))
            have hz3 := HB3.out.size
            clear hb3
            go_wp2_with fail
            refine (CE5.out _ HB3.out).mono ?_
            rintro e w4 ⟨rfl, hb4⟩
            have HB4 := Lib.hid (HB3.out.trans (hb4.mono hz3))
            clear hb4
            go_wp2_with fail
            go_ret
            exact ⟨rfl, HB4.out⟩
      · obtain ⟨j, rfl⟩ : ∃ j : Nat, a1 = (j : Int) := ⟨a1.toNat, by omega⟩
        have hj : j < us.length := by omega
        have CR := Lib.hid (world_Do_repeat g B 2 [0, 0] [0, 0] 0 uv us j L0 0 w2 HW2.out (HL.out j hj))
        have CL := Lib.hid (fun w' (hb : Below w2.heap.size w2 w') => world_Do_lose g B 2 [0, 0] [0, 0] 0 uv us j L0 0 w' (HW2.out.below hb) (HL.out j hj))
        have hlen : (us.eraseIdx j).length = us.length - 1 := by rw [List.length_eraseIdx, if_pos hj]
        have HLen := Lib.hid hlen
        have e1 : ¬ (j : Int) < 0 := by omega
        have e2 : ¬ (us.length : Int) ≤ (j : Int) := by omega
        have hw9 := IntWalk.i64_in ((us.length : Int) - 1) (by omega)
        have hc9 : ((us.length - 1 : Nat) : Int) = (us.length : Int) - 1 := by omega
        clear hr HL CEn CE0 HW HW1 HB1 hl hlen
        as_aux_lemma =>
          go_wp2_with fail
          refine CR.out.mono ?_
          rintro e w3 ⟨p, rfl, hp, hbp, hb3⟩
          have HB3 := Lib.hid (HB2.out.trans (hb3.mono hz2))
          have hz3 := HB3.out.size
          have HW3 := Lib.hid (HW2.out.below hb3)
          have HP := Lib.hid hbp
          have hpl := hbp.lt
          have HB23 := Lib.hid hb3
          have CU := Lib.hid (world_Under g B 2 [0, 0] [0, 0] 0 uv us w3 HW3.out)
          clear hb3 hbp CR
          go_wp2_with fail
          refine CU.out.mono ?_
          rintro e w4 ⟨A2, c2, rfl, c3, c4, _, hb4⟩
          have HB4 := Lib.hid (HB3.out.trans (hb4.mono hz3))
          have hz4 := HB4.out.size
          have HB24 := Lib.hid (HB23.out.trans (hb4.mono HB23.out.size))
          have x1 : w4.cell? ⟨p, 1, none⟩ = some (.int .i64 1) := (HP.out.below hb4 hpl).cell 1
          have CL4 := Lib.hid (CL.out w4 HB24.out)
          have HW4 := Lib.hid (HW3.out.below hb4)
          unfold maxLen at c4
          clear hb4 CU CL HP
          go_wp2_with fail
          refine CL4.out.mono ?_
          rintro e w5 ⟨rfl, uv5, hW5, hK5, _⟩
          have HB5 := Lib.hid (HB4.out.trans (kept_below HW4.out hK5 (b := w.heap.size) (by omega)))
          have hz5 := HB5.out.size
          have CU := Lib.hid (by have h := world_Under g B 2 [0, 0] [0, 0] 0 uv5 (us.eraseIdx j) w5 hW5; rw [HLen.out] at h; exact h)
          clear hW5 hK5 CL4 x1
          go_wp2_with fail
          refine CU.out.mono ?_
          rintro e w6 ⟨A3, c5, rfl, c6, c7, _, hb6⟩
          have HB6 := Lib.hid (HB5.out.trans (hb6.mono hz5))
          clear hb6 CU
          go_wp2_with fail
          go_ret
          exact ⟨by simp [hc9], HB6.out⟩
set_option maxRecDepth 100000 in
theorem walk (a0 : Int) (a1 : Int) (w : World) (h0 : -9223372036854775808 ≤ a0 ∧ a0 ≤ 9223372036854775807) (h1 : -9223372036854775808 ≤ a1 ∧ a1 ≤ 9223372036854775807) (hg : HandleAt w) :
    Calls Tryd.prog 3 #[.int .i64 a0, .int .i64 a1] w fun e w' => e = .returned (.bool true) ∧ Below w.heap.size w w' := by
  by_cases c : a0 < 0 ∨ 45 < a0
  · have hd : a0 < 0 ∨ (¬ a0 < 0 ∧ 45 < a0) := by omega
    clear c
    rcases hd with d | ⟨d, d'⟩
    all_goals
      as_aux_lemma =>
        clear h0 h1 hg
        go_enter Tryd.func3, Tryd.ntmps3
        go_wp2_with fail
        have I0 : IsInts ((w.alloc (.cells #[.int .i64 0, .int .i64 0] 3)).alloc (.cells #[.int .i64 0, .int .i64 0] 3)) (some ⟨w.heap.size, 0, none⟩) 2 2 [0, 0] := pair_ints ((Blk.new w _ _).alloc _) (by unfold i64B; omega) (by unfold i64B; omega)
        have I1 : IsInts ((w.alloc (.cells #[.int .i64 0, .int .i64 0] 3)).alloc (.cells #[.int .i64 0, .int .i64 0] 3)) (some ⟨w.heap.size + 1, 0, none⟩) 2 2 [0, 0] := pair_ints (T := 3) (by have := Blk.new (w.alloc (.cells #[.int .i64 0, .int .i64 0] 3)) 3 #[.int .i64 0, .int .i64 0]; simpa using this) (by unfold i64B; omega) (by unfold i64B; omega)
        refine (world_New_u _ _ _ [0, 0] _ _ _ [0, 0] 0 _ I0 I1 (by decide)).mono ?_
        rintro e w1 ⟨g, B, rfl, hgw, hw1, hb1⟩
        have HB1 := Lib.hid (show Below w.heap.size w w1 by exact (by repeat (first | with_reducible exact Below.refl _ _ | (with_reducible refine Below.alloc ?_ (by first | omega | (simp; done) | (simp; omega)) _) | (with_reducible refine Below.setCell ?_ (by first | omega | (simp; done) | (simp; omega)) _) | (with_reducible refine Below.drew ?_) | (with_reducible refine below_drewN ?_ _) | (with_reducible assumption) | (with_reducible refine bel_step (by with_reducible assumption) ?_ (by first | omega | (simp; done) | (simp; omega))))))
        clear hw1 hb1 I0 I1
        go_wp2_with fail
        go_ret
        exact ⟨rfl, HB1.out⟩
  · obtain ⟨n, rfl⟩ : ∃ n : Nat, a0 = (n : Int) := ⟨a0.toNat, by omega⟩
    exact good n (by omega) a1 w hg

set_option maxRecDepth 100000 in
theorem lifted (os : Os) (started : os.Started) (H : Type) (enc : TypeId × Value → H) :
    ReturnsInHanded {} Tryd.checked os 3 .any (fun w args => (Rows.worldUnderSpec.pre enc Tryd.prog Tryd.f3 [] false w args ∧ laidMetH Tryd.prog laidList w) ∧ sizedMet enc Tryd.prog Tryd.f3 (OpenSpec.ofChange Rows.worldUnderSpec) false w args)
      (Rows.worldUnderSpec.post enc Tryd.prog Tryd.f3 false true false false) := by
  refine returnsInHanded_of_change_and (C := Tryd.checked) (X := fun w _ => laidMetH Tryd.prog laidList w) (fun _ _ _ hh h => h.of_heap hh) own started (by kernel_rfl) Tryd.func3
    (ChangeSpec.witness_at (enc := enc) (C := Tryd.checked) (os := os) (X := fun w _ => laidMetH Tryd.prog laidList w) false (laidWorld os) #[.int .i64 0, .int .i64 0] 8 rfl (by kernel_rfl) (by kernel_rfl) (by kernel_rfl) (by kernel_rfl) (by kernel_rfl) (laidWorld_met os _)) ?_
  intro W base args ds gs before hval0 hW hcnd hreach hL _
  have hval : ∀ (j : Nat) t v, Tryd.f3.params[j]? = some t → args[j]? = some v → Value.okWide Tryd.prog W .any base t v := hval0
  have hW' := hW
  obtain ⟨p, q, hA0, hV, rfl, hfz, hnd⟩ := hW
  have hA : DataW.TrodAll enc Tryd.prog W 0 (fun _ => true) true Tryd.f3.params.toList args.toList ds p := hA0
  rw [Tryd.params3] at hA hval
  obtain ⟨v0, vs0, d0, ds0, p0, q0, hargs, rfl, rfl, g0, r0⟩ := trodAll_cons hA
  obtain ⟨v1, vs1, d1, ds1, p1, q1, rfl, rfl, rfl, g1, r1⟩ := trodAll_cons r0
  obtain ⟨rfl, rfl, rfl⟩ := trodAll_nil r1
  obtain rfl : args = #[v0, v1] := by cases args; simp_all
  have hV2 : DataW.TrodVars enc Tryd.prog W (fun _ => true) [] gs q := hV
  obtain ⟨rfl, rfl⟩ : gs = [] ∧ q = [] := by
    cases gs with
    | nil => exact ⟨rfl, hV2⟩
    | cons g r => exact absurd hV2 (by intro h; cases h)
  obtain ⟨a0, rfl, rfl, rfl, u0⟩ := open_int Tryd.underlying3 (hval 0 3 v0 rfl rfl) g0
  have h0 := bounds_i64 u0
  obtain ⟨a1, rfl, rfl, rfl, u1⟩ := open_int Tryd.underlying3 (hval 1 3 v1 rfl rfl) g1
  have h1 := bounds_i64 u1
  clear hA0 hval0
  refine (walk a0 a1 W h0 h1 (handle_of_laid hL)).mono fun e W' ⟨he, bel⟩ => ?_
  subst he
  exact ⟨_, rfl, _, _, _, [], _, [], hW', trodAll_mk1 (shut_bool Tryd.underlying4 _), (trodAll_cons_mk (shut_int Tryd.underlying3 u0) (trodAll_cons_mk (shut_int Tryd.underlying3 u1) trodAll_mk0)), rfl, bel.frame _, fun h => by cases h⟩

theorem over : Rows.worldUnderRow.holds Tryd.pinned (OpenSpec.ofChange Rows.worldUnderSpec) :=
  OpenClaim.holds_of_wide 3 Tryd.f3 rfl rfl rfl rfl rfl rfl rfl ⟨rfl, rfl, rfl, rfl, rfl⟩ rfl rfl rfl rfl rfl (by kernel_rfl) Tryd.func3 (by kernel_rfl)
    (of_decide_eq_true (by kernel_rfl)) (by unfold Func.isWrapper; rw [if_neg (of_decide_eq_false (by kernel_rfl))]; exact ⟨rfl, rfl⟩)
    (fun os started H enc _ => lifted os started H enc)

theorem card : Rows.WorldUnderCardSaid :=
  Claim7.holds_tied_plain_at .later [] [.handle] true (true, Rows.worldUnderCard.stood.harness.2) true
    over (fun _ h => by cases h) (by kernel_rfl) (fun _ h => by cases h) worldUnder_row_tie rfl ⟨rfl, rfl⟩ (by kernel_rfl) rfl
    (fun f fn hf hfn => by
      obtain rfl : f = 3 := Option.some.inj ((show Tryd.prog.funcNamed "noonmark/noonlaw4.WorldUnder" = some 3 by kernel_rfl).symm.trans hf) |>.symm
      obtain rfl : fn = Tryd.f3 := (Option.some.inj (Tryd.func3.symm.trans hfn)).symm
      exact ⟨by kernel_rfl, fun j t ht => by
        rw [Tryd.params3] at ht
        exact noStandIn (ps := #[3, 3]) (by kernel_rfl) ht⟩)
    (by kernel_rfl)

end Go.Proofs.YtloniibmmajlbaaDoor.lWorldUnder
