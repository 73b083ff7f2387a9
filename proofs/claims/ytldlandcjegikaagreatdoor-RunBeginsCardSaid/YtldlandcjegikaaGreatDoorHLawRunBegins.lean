/- Proved: the tied card of noonlaw3.RunBegins: it answers true for every input and leaves its arguments as they were. The card's own conditions: the listed variables hold what the program's text lays there. -/
import Derived.Test.YtldlandcjegikaaGreatDoorHK2
import Derived.Test.YtldlandcjegikaaGreatDoorHK9
import Derived.Test.YtldlandcjegikaaGreatDoorHRunK
import Derived.Test.YtldlandcjegikaaGreatDoorHRSpanT
import Derived.Test.YtldlandcjegikaaGreatDoorHUptoR
import Derived.Deep.DeepCutAuto
namespace Go.Proofs.YtldlandcjegikaaGreatDoor.lRunBegins
open Go.ChangeShapes Go.WideShapes Go.ChangeAt Go.RowKit
open Go.ChangeMaps (open_string)
set_option linter.unusedVariables false
set_option linter.unusedSimpArgs false
set_option maxRecDepth 100000 in
set_option maxHeartbeats 8000000 in
theorem walk (a0 : ByteArray) (a1 : Int) (w : World) (h0 : a0.size ≤ maxLen) (h1 : -9223372036854775808 ≤ a1 ∧ a1 ≤ 9223372036854775807) (HR : RunW w) :
    Calls Tryz.prog 4 #[.string a0, .int .i64 a1] w fun e w' => e = .returned (.bool true) ∧ Below w.heap.size w w' := by
  have CF := Lib.hid (show Calls Tryz.prog 6 #[.string ⟨#[103, 111, 32, 49, 48, 10, 115, 104, 111, 119, 32, 49, 10, 102, 108, 121, 10, 100, 97, 116, 101, 32, 56, 54, 51, 57, 57, 10]⟩] w fun e w' => e = .returned (.string ⟨#[111, 107, 10, 49, 48, 48, 57, 10, 98, 97, 100, 10, 49, 57, 55, 48, 45, 48, 49, 45, 48, 49, 84, 50, 51, 58, 53, 57, 58, 53, 57, 10]⟩) ∧ Below w.heap.size w w' from
    (run_Run ⟨factT.toArray⟩ (by decide) w HR).mono fun e w' h => by
      obtain ⟨os, t, us, S, h1, rfl, h2⟩ := h
      rw [fact_out h1]
      exact ⟨rfl, h2⟩)
  have HW := Lib.hid HR
  clear HR
  by_cases hl : 3000 < a0.size
  · have CL := Lib.hid (fun w => run_long a0 hl w)
    have hl2 : (3000 : Int) < (a0.size : Int) := by omega
    go_enter Tryz.func4, Tryz.ntmps4
    go_wp2_with fail
    refine CF.out.mono ?_
    rintro e w1 ⟨rfl, hb1⟩
    go_wp2_with fail
    refine (CL.out _).mono ?_
    rintro e w2 ⟨rfl, hb2⟩
    go_wp2_with fail
    go_ret
    exact ⟨rfl, hb1.trans (hb2.mono hb1.size)⟩
  · have hl2 : ¬ (3000 : Int) < (a0.size : Int) := by omega
    have hl3 : (a0.size : Int) ≤ 3000 := by omega
    have CR := Lib.hid (fun T w hT HR => run_Run T hT w HR)
    have CR2 := Lib.hid (fun w HR => run_Run a0 (by omega) w HR)
    have HX := Lib.hid (fun k h i hi w => idx_r a0 k h i hi w)
    obtain ⟨l, el⟩ : ∃ l, a0.data.toList = l := ⟨_, rfl⟩
    have hlen : l.length = a0.size := by rw [← el]; exact str_len2 a0
    have EL := Lib.hid el
    have HLEN := Lib.hid hlen
    clear el hlen
    go_enter Tryz.func4, Tryz.ntmps4
    go_wp2_with fail
    refine CF.out.mono ?_
    rintro e w1 ⟨rfl, hb1⟩
    have hz1 := hb1.size
    go_wp2_with fail
    go_loop [7, 8] (fun i j => ∃ k n : Nat, i = .int .i64 k ∧ j = .int .i64 n ∧ k ≤ a0.size ∧ n ≤ k ∧ ((n : Int) < a1 ∨ (cutD 10 (l.take k)).2 = [])) (fun i _ => a0.size - (intOf i).toNat)
    case atStart => exact ⟨0, 0, rfl, rfl, by omega, by omega, .inr rfl⟩
    case round =>
      obtain ⟨k, n, rfl, rfl, hk, hn, hI⟩ := hrel
      have HI := Lib.hid hI
      clear hI
      have v1 : IntKind.i64.wrap ((k : Int) + 1) = (k : Int) + 1 := IntWalk.i64_in _ (by omega)
      have v2 : IntKind.i64.wrap ((n : Int) + 1) = (n : Int) + 1 := IntWalk.i64_in _ (by omega)
      have ex : (k : Int) < (a0.size : Int) ∧ (n : Int) < a1 → k < a0.size := fun h => by omega
      by_cases c : (k : Int) < (a0.size : Int) ∧ (n : Int) < a1
      · obtain ⟨c1, c2⟩ := c
        have c3 : k < a0.size := by omega
        have y0 := HX.out k c3 (k : Int) rfl
        rw [EL.out] at y0
        obtain ⟨x, exx⟩ : ∃ x : UInt8, l.getD k 0 = x := ⟨_, rfl⟩
        rw [exx] at y0
        have HE := Lib.hid exx
        clear exx ex
        by_cases c4 : (x.toNat : Int) = 10
        · go_wp2_with fail
          go_round
          case rel =>
            have hx : x = 10 := UInt8.toNat_inj.1 (by show x.toNat = 10; omega)
            exact ⟨k + 1, n + 1, by simp, by simp, by omega, by omega, .inr (cut_step (by rw [HLEN.out]; exact c3) (by rw [HE.out, hx]))⟩
          case measure => simp [intOf]; omega
        · go_wp2_with fail
          go_round
          case rel => exact ⟨k + 1, n, by simp, rfl, by omega, by omega, .inl c2⟩
          case measure => simp [intOf]; omega
      · have c5 : l.length ≤ k ∨ (cutD 10 (l.take k)).2 = [] := by
          by_cases g : (k : Int) < (a0.size : Int)
          · right
            rcases HI.out with q | q
            · exact absurd ⟨g, q⟩ c
            · exact q
          · left; rw [HLEN.out]; omega
        have HC := Lib.hid c5
        have hks : (a0.extract 0 k).data.toList = l.take k := by rw [← EL.out]; simp
        have HKS := Lib.hid hks
        have hsz : (a0.extract 0 k).size ≤ 3000 := by simp; omega
        have c6 : ¬ (k : Int) < (a0.size : Int) ∨ ((k : Int) < (a0.size : Int) ∧ ¬ (n : Int) < a1) := by
          by_cases g : (k : Int) < (a0.size : Int)
          · right; exact ⟨g, fun q => c ⟨g, q⟩⟩
          · left; exact g
        clear c c5 hks ex
        rcases c6 with c6 | ⟨c6, c7⟩
        all_goals
          go_wp2_with fail
          refine (CR.out _ _ hsz (HW.out.below hb1)).mono ?_
          rintro e w2 ⟨o1, t1, us1, S1, T1, rfl, hb2⟩
          have HT1 := Lib.hid T1
          have hz2 := hb2.size
          have HB2 := Lib.hid (hb1.trans (hb2.mono hz1))
          clear T1
          go_wp2_with fail
          refine (CR2.out _ (HW.out.below HB2.out)).mono ?_
          rintro e w3 ⟨o2, t2, us2, S2, T2, rfl, hb3⟩
          have HB3 : Below w.heap.size w w3 := HB2.out.trans (hb3.mono HB2.out.size)
          obtain ⟨r, hr⟩ := begins HC.out (by rw [← HKS.out]; exact HT1.out) (by rw [← EL.out]; exact T2)
          obtain ⟨q1, q2⟩ := begin_bytes hr
          rw [← str_len3, ← str_len3] at q1
          obtain ⟨sa, esa⟩ : ∃ s : ByteArray, (⟨(outL o1).toArray⟩ : ByteArray) = s := ⟨_, rfl⟩
          obtain ⟨sb, esb⟩ : ∃ s : ByteArray, (⟨(outL o2).toArray⟩ : ByteArray) = s := ⟨_, rfl⟩
          rw [esa, esb] at q1 q2
          rw [esa, esb]
          have q3 : ((sb.extract 0 sa.size).toList == sa.toList) = true := by rw [q2]; exact beq_self_eq_true _
          have q4 : (sa.size : Int) ≤ (sb.size : Int) := by omega
          clear hr q2 T2 esa esb hb3
          go_wp2_with fail
          go_ret
          exact ⟨rfl, HB3⟩

set_option maxRecDepth 100000 in
theorem reads (os : Os) {H : Type} (enc : TypeId × Value → H) : DataW.whole enc Tryz.prog ((laidWorldR os).forCall (fun _ _ => 0) ⟨#[], #[.string ⟨#[]⟩, .int .i64 0], []⟩).memory Tryz.f4.params.toList Rows.runBeginsSpec.vars false (#[.string ⟨#[]⟩, .int .i64 0] : Array Value).toList 8 = some ([.lit (.string []), .lit (.int .i64 0)], [], []) :=
  by kernel_rfl
set_option maxRecDepth 100000 in
theorem lifted (os : Os) (started : os.Started) (H : Type) (enc : TypeId × Value → H) (F : Stop.Interp) :
    ReturnsInHanded {} Tryz.checked os 4 .any ((OpenSpec.ofChange Rows.runBeginsSpec).preRow enc Tryz.prog Tryz.f4 Rows.runBeginsRow.domain false laidDataR) (((OpenSpec.ofChange Rows.runBeginsSpec).at F).post enc Tryz.prog Tryz.f4 false true false false) := by
  refine returnsInHanded_of_row (C := Tryz.checked) (s := OpenSpec.ofChange Rows.runBeginsSpec) own started (by kernel_rfl) Tryz.func4
    (witness_row_at (enc := enc) (C := Tryz.checked) false (laidWorldR os) #[.string ⟨#[]⟩, .int .i64 0] rfl (by kernel_rfl) (by kernel_rfl) (by kernel_rfl)
      (OpenSpec.preRow_of_cond 8 (reads os enc) (by rfl) (fun k hk => by cases hk) (by kernel_rfl) (laidWorldR_met os _))) ?_
  intro W base args ds gs before hval0 hW hcnd hcond hreach hL hshape _
  have hval : ∀ (j : Nat) t v, Tryz.f4.params[j]? = some t → args[j]? = some v → Value.okWide Tryz.prog W .any base t v := hval0
  have hW' := hW
  obtain ⟨p, q, hA0, hV, rfl, hfz, hnd⟩ := hW
  have hA : DataW.TrodAll enc Tryz.prog W 0 (fun _ => true) true Tryz.f4.params.toList args.toList ds p := hA0
  rw [Tryz.params4] at hA hval
  obtain ⟨v0, vs0, d0, ds0, p0, q0, hargs, rfl, rfl, g0, r0⟩ := trodAll_cons hA
  obtain ⟨v1, vs1, d1, ds1, p1, q1, rfl, rfl, rfl, g1, r1⟩ := trodAll_cons r0
  obtain ⟨rfl, rfl, rfl⟩ := trodAll_nil r1
  obtain rfl : args = #[v0, v1] := by cases args; simp_all
  have hV2 : DataW.TrodVars enc Tryz.prog W (fun _ => true) [] gs q := hV
  obtain ⟨rfl, rfl⟩ : gs = [] ∧ q = [] := by
    cases gs with
    | nil => exact ⟨rfl, hV2⟩
    | cons g r => exact absurd hV2 (by intro h; cases h)
  have k0 := g0
  have lt0 : ∀ x ∈ p0, x.block < W.heap.size := by obtain ⟨m, hm⟩ := k0; exact DataW.trod_lt m _ _ _ hm
  have rd0 : Tryz.prog.readableRec 9 = true := by kernel_rfl
  have ls0 : 9 < Tryz.prog.types.size := of_decide_eq_true (by kernel_rfl)
  obtain ⟨a0, rfl, e0, _, h0⟩ := open_string Tryz.underlying9 (hval 0 9 v0 rfl rfl) g0
  obtain ⟨a1, rfl, rfl, rfl, u1⟩ := open_int Tryz.underlying3 (hval 1 3 v1 rfl rfl) g1
  have h1 := bounds_i64 u1
  clear hA0 hval0
  have key : Calls Tryz.prog 4 #[.string a0, .int .i64 a1] W fun e W' => ∃ v, e = .returned v ∧ Rows.runBeginsSpec.post enc Tryz.prog Tryz.f4 false true false false W #[.string a0, .int .i64 a1] v W' := by
    refine (walk a0 a1 W h0 h1 (runW_of_laidR hL hshape)).mono fun e W' ⟨he, bel⟩ => ?_
    subst he
    exact ⟨_, rfl, _, _, _, [], _, [], hW', trodAll_mk1 (shut_bool Tryz.underlying4 _), (trodAll_cons_mk (Below.trod laidOut rd0 ls0 k0 bel lt0) (trodAll_cons_mk (shut_int Tryz.underlying3 u1) trodAll_mk0)), rfl, bel.frame _, fun h => by cases h⟩
  exact key

theorem over : Rows.runBeginsRow.holds Tryz.pinned (OpenSpec.ofChange Rows.runBeginsSpec) :=
  OpenClaim.holds_of_cond 4 Tryz.f4 rfl rfl rfl rfl rfl rfl rfl ⟨rfl, rfl, rfl, rfl, rfl⟩ rfl rfl rfl rfl rfl (by kernel_rfl) Tryz.func4 (by kernel_rfl)
    (of_decide_eq_true (by kernel_rfl)) (by unfold Func.isWrapper; rw [if_neg (of_decide_eq_false (by kernel_rfl))]; exact ⟨rfl, rfl⟩)
    (fun os started H enc _ F => by rw [OpenClaim.pre_eq_preRow]; exact lifted os started H enc F)

theorem card : Rows.RunBeginsCardSaid :=
  Claim7.holds_tied_plain_at .later [] [.data, .data, .data, .data, .data, .handle, .sentinel, .sentinel, .wider, .pinned] true (true, Rows.runBeginsCard.stood.harness.2) true
    over (fun _ h => by cases h) (by kernel_rfl) (fun _ h => by cases h) runBegins_row_tie rfl ⟨rfl, rfl⟩ (by kernel_rfl) rfl
    (fun f fn hf hfn => by
      obtain rfl : f = 4 := Option.some.inj ((show Tryz.prog.funcNamed "noonmark/noonlaw3.RunBegins" = some 4 by kernel_rfl).symm.trans hf) |>.symm
      obtain rfl : fn = Tryz.f4 := (Option.some.inj (Tryz.func4.symm.trans hfn)).symm
      exact ⟨by kernel_rfl, fun j t ht => by
        rw [Tryz.params4] at ht
        exact noStandIn (ps := #[9, 3]) (by kernel_rfl) ht⟩)
    (by kernel_rfl)

#print axioms card
end Go.Proofs.YtldlandcjegikaaGreatDoor.lRunBegins
