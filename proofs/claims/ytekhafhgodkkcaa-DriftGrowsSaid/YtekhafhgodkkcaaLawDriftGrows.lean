/- Proved: noonlaw4.DriftGrows answers true for every input and leaves its arguments as they were. No condition. -/
import Derived.Test.YtekhafhgodkkcaaOpen
import Derived.Test.YtekhafhgodkkcaaDrift
namespace Go.Proofs.Ytekhafhgodkkcaa.lDriftGrows
open Go.ChangeShapes Go.WideShapes Go.ChangeAt Go.RowKit
set_option linter.unusedVariables false
set_option linter.unusedSimpArgs false
theorem grow_le {n m a b : Int} (h1 : readyB n a = true) (h2 : readyB m b = true) (hn : n ≤ m) (ha : a ≤ b) : growV n a ≤ growV m b := by
  obtain ⟨r0, r1, r2, r3⟩ := readyB_iff.1 h1
  obtain ⟨s0, s1, s2, s3⟩ := readyB_iff.1 h2
  simp only [growV, h1, h2, if_true, byP]
  exact upD_mono (Int.mul_le_mul hn ha r2 (by omega)) (by omega)
set_option maxHeartbeats 400000 in
theorem walk (a0 : Int) (a1 : Int) (a2 : Int) (a3 : Int) (w : World) (h0 : -9223372036854775808 ≤ a0 ∧ a0 ≤ 9223372036854775807) (h1 : -9223372036854775808 ≤ a1 ∧ a1 ≤ 9223372036854775807) (h2 : -9223372036854775808 ≤ a2 ∧ a2 ≤ 9223372036854775807) (h3 : -9223372036854775808 ≤ a3 ∧ a3 ≤ 9223372036854775807) :
    Calls Try.prog 3 #[.int .i64 a0, .int .i64 a1, .int .i64 a2, .int .i64 a3] w fun e w' => e = .returned (.bool true) ∧ Below w.heap.size w w' := by
  have f1 : growV 1000000 5 = 5 := by decide
  have f2 : growC 1000000 5 = 0 := by decide
  by_cases c1 : readyB a0 a2 = true
  · by_cases c2 : readyB a1 a3 = true
    · have e1 : growC a0 a2 = 0 := by simp [growC, c1, okC]
      have e2 : growC a1 a3 = 0 := by simp [growC, c2, okC]
      by_cases c3 : a0 ≤ a1
      · by_cases c4 : a2 ≤ a3
        · have c5 := grow_le c1 c2 c3 c4
          go_enter Try.func3, Try.ntmps3
          go_wp2_with (go_at_call 12; refine (Grow_any _ _ _).mono ?_; rintro e w' ⟨rfl, rfl⟩)
          go_ret
          exact ⟨rfl, Below.refl _ _⟩
        · go_enter Try.func3, Try.ntmps3
          go_wp2_with (go_at_call 12; refine (Grow_any _ _ _).mono ?_; rintro e w' ⟨rfl, rfl⟩)
          go_ret
          exact ⟨rfl, Below.refl _ _⟩
      · go_enter Try.func3, Try.ntmps3
        go_wp2_with (go_at_call 12; refine (Grow_any _ _ _).mono ?_; rintro e w' ⟨rfl, rfl⟩)
        go_ret
        exact ⟨rfl, Below.refl _ _⟩
    · have e1 : growC a0 a2 = 0 := by simp [growC, c1, okC]
      have e2 : growC a1 a3 = 1 := by simp [growC, c2, okC]
      go_enter Try.func3, Try.ntmps3
      go_wp2_with (go_at_call 12; refine (Grow_any _ _ _).mono ?_; rintro e w' ⟨rfl, rfl⟩)
      go_ret
      exact ⟨rfl, Below.refl _ _⟩
  · have e1 : growC a0 a2 = 1 := by simp [growC, c1, okC]
    have e2 : growC a1 a3 = okC (readyB a1 a3) := rfl
    by_cases c2 : readyB a1 a3 = true
    all_goals
      go_enter Try.func3, Try.ntmps3
      go_wp2_with (go_at_call 12; refine (Grow_any _ _ _).mono ?_; rintro e w' ⟨rfl, rfl⟩)
      go_ret
      exact ⟨rfl, Below.refl _ _⟩

set_option maxRecDepth 100000 in
theorem lifted (os : Os) (started : os.Started) (H : Type) (enc : TypeId × Value → H) :
    ReturnsInHanded {} Try.checked os 3 .any (Rows.driftGrowsSpec.pre6 enc Try.prog Try.f3 Rows.driftGrowsRow.domain false) (Rows.driftGrowsSpec.post enc Try.prog Try.f3 false true false false) := by
  refine returnsInHanded_of_change (C := Try.checked) own started (by kernel_rfl) Try.func3
    (ChangeSpec.witness6 (enc := enc) (C := Try.checked) false ⟨#[], #[.int .i64 0, .int .i64 0, .int .i64 0, .int .i64 0], []⟩ 8 (by kernel_rfl) (by kernel_rfl) (by kernel_rfl) (by kernel_rfl)) ?_
  intro W base args ds gs before hval0 hW hcnd hreach
  have hval : ∀ (j : Nat) t v, Try.f3.params[j]? = some t → args[j]? = some v → Value.okWide Try.prog W .any base t v := hval0
  have hW' := hW
  obtain ⟨p, q, hA0, hV, rfl, hfz, hnd⟩ := hW
  have hA : DataW.TrodAll enc Try.prog W 0 (fun _ => true) true Try.f3.params.toList args.toList ds p := hA0
  rw [Try.params3] at hA hval
  obtain ⟨v0, vs0, d0, ds0, p0, q0, hargs, rfl, rfl, g0, r0⟩ := trodAll_cons hA
  obtain ⟨v1, vs1, d1, ds1, p1, q1, rfl, rfl, rfl, g1, r1⟩ := trodAll_cons r0
  obtain ⟨v2, vs2, d2, ds2, p2, q2, rfl, rfl, rfl, g2, r2⟩ := trodAll_cons r1
  obtain ⟨v3, vs3, d3, ds3, p3, q3, rfl, rfl, rfl, g3, r3⟩ := trodAll_cons r2
  obtain ⟨rfl, rfl, rfl⟩ := trodAll_nil r3
  obtain rfl : args = #[v0, v1, v2, v3] := by cases args; simp_all
  obtain ⟨rfl, rfl⟩ := trodVars_none hV
  obtain ⟨a0, rfl, rfl, rfl, u0⟩ := open_int Try.underlying3 (hval 0 3 v0 rfl rfl) g0
  have h0 := bounds_i64 u0
  obtain ⟨a1, rfl, rfl, rfl, u1⟩ := open_int Try.underlying3 (hval 1 3 v1 rfl rfl) g1
  have h1 := bounds_i64 u1
  obtain ⟨a2, rfl, rfl, rfl, u2⟩ := open_int Try.underlying3 (hval 2 3 v2 rfl rfl) g2
  have h2 := bounds_i64 u2
  obtain ⟨a3, rfl, rfl, rfl, u3⟩ := open_int Try.underlying3 (hval 3 3 v3 rfl rfl) g3
  have h3 := bounds_i64 u3
  clear hA0 hval0
  refine (walk a0 a1 a2 a3 W h0 h1 h2 h3).mono fun e W' ⟨he, bel⟩ => ?_
  subst he
  exact ⟨_, rfl, _, _, _, [], _, [], hW', trodAll_mk1 (shut_bool Try.underlying4 _), (trodAll_cons_mk (shut_int Try.underlying3 u0) (trodAll_cons_mk (shut_int Try.underlying3 u1) (trodAll_cons_mk (shut_int Try.underlying3 u2) (trodAll_cons_mk (shut_int Try.underlying3 u3) trodAll_mk0)))), rfl, bel.frame _, fun h => by cases h⟩

theorem over : Rows.driftGrowsRow.holds Try.pinned (OpenSpec.ofChange Rows.driftGrowsSpec) :=
  OpenClaim.holds_of_wide 3 Try.f3 rfl rfl rfl rfl rfl rfl rfl ⟨rfl, rfl, rfl, rfl, rfl⟩ rfl rfl rfl rfl rfl (by kernel_rfl) Try.func3 (by kernel_rfl)
    (of_decide_eq_true (by kernel_rfl)) (by unfold Func.isWrapper; rw [if_neg (of_decide_eq_false (by kernel_rfl))]; exact ⟨rfl, rfl⟩)
    (fun os started H enc _ => lifted os started H enc)

/-- the statement -/
theorem proved : Rows.DriftGrowsSaid := over

#print axioms proved
end Go.Proofs.Ytekhafhgodkkcaa.lDriftGrows
