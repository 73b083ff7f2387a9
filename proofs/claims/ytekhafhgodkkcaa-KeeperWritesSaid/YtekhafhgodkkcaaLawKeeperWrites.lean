/- Proved: noonlaw4.KeeperWrites answers true for every input. No condition. -/
import Derived.Test.YtekhafhgodkkcaaOpen
import Derived.Test.YtekhafhgodkkcaaKeeper
namespace Go.Proofs.Ytekhafhgodkkcaa.lKeeperWrites
open Go.ChangeShapes Go.WideShapes Go.ChangeAt Go.RowKit
set_option linter.unusedVariables false
set_option linter.unusedSimpArgs false
structure Inv (ah n : Int) (g : Nat) (j ke m : Int) (w : World) : Prop where
  j0 : 0 ≤ j
  jn : j ≤ n
  e : ke = m * ah
  k1 : j ≤ ke
  k2 : ke < j + ah
  m0 : 0 ≤ m
  mj : m ≤ j
  at_ : KeepAt w g ah (j - 1) ke m
theorem Inv.fin {ah n : Int} {g : Nat} {j ke m : Int} {w : World} (h : Inv ah n g j ke m w) (hj : n ≤ j) (ha : 1 ≤ ah) : m = (n + ah - 1) / ah := by
  have : j = n := Int.le_antisymm h.jn hj
  subst this
  have h1 := h.k1
  have h2 := h.k2
  rw [h.e] at h1 h2
  rw [Int.add_sub_assoc]
  symm
  apply Int.le_antisymm
  · exact Int.le_of_lt_add_one ((Int.ediv_lt_iff_lt_mul (by omega)).2 (by rw [Int.add_mul]; omega))
  · exact (Int.le_ediv_iff_mul_le (by omega)).2 (by omega)
theorem Inv.step {ah n : Int} {g : Nat} {j ke m : Int} {w w' : World} (h : Inv ah n g j ke m w) (hj : j < n) (ha : 1 ≤ ah) (hk : KeepAt w' g ah (tellN (j - 1) 0) (keptN (j - 1) ke ah 0) (wroteN (j - 1) ke m 0)) :
    Inv ah n g (j + 1) (keptN (j - 1) ke ah 0) (wroteN (j - 1) ke m 0) w' := by
  obtain ⟨q0, q1, q2, q3, q4, q5, q6, q7⟩ := h
  have et : tellN (j - 1) 0 = j := by unfold tellN; omega
  unfold keptN wroteN at *
  rw [et] at hk ⊢
  by_cases c : ke ≤ j
  · simp only [if_pos c] at hk ⊢
    refine ⟨by omega, by omega, ?_, by omega, by omega, by omega, by omega, by rw [show j + 1 - 1 = j by omega]; exact hk⟩
    have : ke = j := by omega
    rw [Int.add_mul, ← q2, this]
    omega
  · simp only [if_neg c] at hk ⊢
    exact ⟨by omega, by omega, q2, by omega, by omega, by omega, by omega, by rw [show j + 1 - 1 = j by omega]; exact hk⟩
set_option maxHeartbeats 1000000 in
theorem walk (a0 : Int) (a1 : Int) (w : World) (h0 : -9223372036854775808 ≤ a0 ∧ a0 ≤ 9223372036854775807) (h1 : -9223372036854775808 ≤ a1 ∧ a1 ≤ 9223372036854775807) :
    Calls Try.prog 5 #[.int .i64 a0, .int .i64 a1] w fun e w' => e = .returned (.bool true) ∧ Below w.heap.size w w' := by
  by_cases c1 : a0 < 1
  · go_enter Try.func5, Try.ntmps5
    go_wp2_with (go_at_call 15; refine (keeper_New_no _ _ (by omega)).mono ?_; rintro e w' ⟨rfl, rfl⟩)
    go_ret
    exact ⟨by first | rfl | simp, Below.refl _ _⟩
  by_cases c2 : 1000000 < a0
  · go_enter Try.func5, Try.ntmps5
    go_wp2_with (go_at_call 15; refine (keeper_New_no _ _ (by omega)).mono ?_; rintro e w' ⟨rfl, rfl⟩)
    go_ret
    exact ⟨by first | rfl | simp, Below.refl _ _⟩
  have c3 : 1 ≤ a0 := by omega
  have c4 : a0 ≤ 1000000 := by omega
  clear c1 c2
  by_cases c5 : a1 < 0
  · go_enter Try.func5, Try.ntmps5
    go_wp2_with (go_at_call 15; refine (keeper_New_ok _ _ (by omega) (by omega)).mono ?_; rintro e w' ⟨rfl, rfl⟩)
    go_ret
    exact ⟨by first | rfl | simp, (by repeat (first | exact Below.refl _ _ | (refine Below.alloc ?_ (by first | omega | (simp; done) | (simp; omega)) _) | (refine Below.setCell ?_ (by first | omega | (simp; done) | (simp; omega)) _) | (refine Below.drew ?_) | (refine below_drewN ?_ _) | (exact (by assumption)) | (refine bel_step (by assumption) ?_ (by first | omega | (simp; done) | (simp; omega)))))⟩
  by_cases c6 : 200 < a1
  · go_enter Try.func5, Try.ntmps5
    go_wp2_with (go_at_call 15; refine (keeper_New_ok _ _ (by omega) (by omega)).mono ?_; rintro e w' ⟨rfl, rfl⟩)
    go_ret
    exact ⟨by first | rfl | simp, (by repeat (first | exact Below.refl _ _ | (refine Below.alloc ?_ (by first | omega | (simp; done) | (simp; omega)) _) | (refine Below.setCell ?_ (by first | omega | (simp; done) | (simp; omega)) _) | (refine Below.drew ?_) | (refine below_drewN ?_ _) | (exact (by assumption)) | (refine bel_step (by assumption) ?_ (by first | omega | (simp; done) | (simp; omega)))))⟩
  have c7 : 0 ≤ a1 := by omega
  have c8 : a1 ≤ 200 := by omega
  clear c5 c6
  go_enter Try.func5, Try.ntmps5
  go_wp2_with (go_at_call 15; refine (keeper_New_ok _ _ (by omega) (by omega)).mono ?_; rintro e w' ⟨rfl, rfl⟩)
  go_loopw [7] (fun i wr => ∃ j ke m : Int, i = .int .i64 j ∧ Inv a0 a1 w.heap.size j ke m wr ∧ Below w.heap.size w wr) (fun i _ => (a1 - intOf i).toNat)
  case atStart =>
    refine ⟨0, 0, 0, rfl, ⟨by omega, by omega, by omega, by omega, by omega, by omega, by omega, ?_⟩, (by repeat (first | exact Below.refl _ _ | (refine Below.alloc ?_ (by first | omega | (simp; done) | (simp; omega)) _) | (refine Below.setCell ?_ (by first | omega | (simp; done) | (simp; omega)) _) | (refine Below.drew ?_) | (refine below_drewN ?_ _) | (exact (by assumption)) | (refine bel_step (by assumption) ?_ (by first | omega | (simp; done) | (simp; omega)))))⟩
    unfold KeepAt
    rw [heap_alloc_new]
    rfl
  case round =>
    obtain ⟨j, ke, m, rfl, hI, hB⟩ := hrel
    have b0 := hI.j0
    have b1 := hI.jn
    have b2 := hI.m0
    have b3 := hI.mj
    have hat := hI.at_
    have et : tellN (j - 1) 0 = j := by unfold tellN; omega
    by_cases hlt : j < a1
    · go_wp2_with fail
      refine (keeper_Read_ok _ _ _ _ _ _ _ hat (by omega) (by omega) (by omega) (by omega) (by omega) (by omega) (by omega) (by omega)).mono ?_
      rintro e w' ⟨rfl, hk, ht⟩
      have hN := Lib.hid (hI.step hlt c3 hk)
      have hT := Lib.hid ht
      clear hk ht hat hI
      go_wp2_with fail
      go_roundw
      case rel => exact ⟨j + 1, _, _, by go_num, hN.out, hB.trans (hT.out.below (Nat.le_refl _) hB.size)⟩
      case measure => simp [intOf]; omega
    · have hf := Lib.hid (hI.fin (by omega) c3)
      clear hI
      go_wp2_with fail
      go_quiet ((go_at_call 17; exact quiet_left (keeper_Writes _ _ _ _ _ _ (hat.drewN _))))
      go_wp2_with fail
      go_ret
      exact ⟨ret_bool (by rw [hf.out]; simp), below_drewN hB _⟩

set_option maxRecDepth 100000 in
theorem lifted (os : Os) (started : os.Started) (H : Type) (enc : TypeId × Value → H) :
    ReturnsInHanded {} Try.checked os 5 .any (Rows.keeperWritesSpec.pre6 enc Try.prog Try.f5 Rows.keeperWritesRow.domain false) (Rows.keeperWritesSpec.post enc Try.prog Try.f5 false true false false) := by
  refine returnsInHanded_of_change (C := Try.checked) own started (by kernel_rfl) Try.func5
    (ChangeSpec.witness6 (enc := enc) (C := Try.checked) false ⟨#[], #[.int .i64 0, .int .i64 0], []⟩ 8 (by kernel_rfl) (by kernel_rfl) (by kernel_rfl) (by kernel_rfl)) ?_
  intro W base args ds gs before hval0 hW hcnd hreach
  have hval : ∀ (j : Nat) t v, Try.f5.params[j]? = some t → args[j]? = some v → Value.okWide Try.prog W .any base t v := hval0
  have hW' := hW
  obtain ⟨p, q, hA0, hV, rfl, hfz, hnd⟩ := hW
  have hA : DataW.TrodAll enc Try.prog W 0 (fun _ => true) true Try.f5.params.toList args.toList ds p := hA0
  rw [Try.params5] at hA hval
  obtain ⟨v0, vs0, d0, ds0, p0, q0, hargs, rfl, rfl, g0, r0⟩ := trodAll_cons hA
  obtain ⟨v1, vs1, d1, ds1, p1, q1, rfl, rfl, rfl, g1, r1⟩ := trodAll_cons r0
  obtain ⟨rfl, rfl, rfl⟩ := trodAll_nil r1
  obtain rfl : args = #[v0, v1] := by cases args; simp_all
  obtain ⟨rfl, rfl⟩ := trodVars_none hV
  obtain ⟨a0, rfl, rfl, rfl, u0⟩ := open_int Try.underlying3 (hval 0 3 v0 rfl rfl) g0
  have h0 := bounds_i64 u0
  obtain ⟨a1, rfl, rfl, rfl, u1⟩ := open_int Try.underlying3 (hval 1 3 v1 rfl rfl) g1
  have h1 := bounds_i64 u1
  clear hA0 hval0
  refine (walk a0 a1 W h0 h1).mono fun e W' ⟨he, bel⟩ => ?_
  subst he
  exact ⟨_, rfl, _, _, _, [], _, [], hW', trodAll_mk1 (shut_bool Try.underlying4 _), (trodAll_cons_mk (shut_int Try.underlying3 u0) (trodAll_cons_mk (shut_int Try.underlying3 u1) trodAll_mk0)), rfl, bel.frame _, fun h => by cases h⟩

theorem over : Rows.keeperWritesRow.holds Try.pinned (OpenSpec.ofChange Rows.keeperWritesSpec) :=
  OpenClaim.holds_of_wide 5 Try.f5 rfl rfl rfl rfl rfl rfl rfl ⟨rfl, rfl, rfl, rfl, rfl⟩ rfl rfl rfl rfl rfl (by kernel_rfl) Try.func5 (by kernel_rfl)
    (of_decide_eq_true (by kernel_rfl)) (by unfold Func.isWrapper; rw [if_neg (of_decide_eq_false (by kernel_rfl))]; exact ⟨rfl, rfl⟩)
    (fun os started H enc _ => lifted os started H enc)

/-- the statement -/
theorem proved : Rows.KeeperWritesSaid := over

#print axioms proved
end Go.Proofs.Ytekhafhgodkkcaa.lKeeperWrites
