/- Proved: noonlaw4.LeapCounts answers true for every input. No condition. -/
import Derived.Test.YtcigoleplhdlaaaOpen
import Derived.Test.YtcigoleplhdlaaaLeap
import Derived.Test.YtcigoleplhdlaaaOwn
namespace Go.Proofs.Ytcigoleplhdlaaa.lLeapCounts
open Go.ChangeShapes Go.WideShapes Go.ChangeAt Go.RowKit
set_option linter.unusedVariables false
set_option linter.unusedSimpArgs false
theorem chkL_snoc {p : Int} {l : List RLeap} {x : RLeap} (h : chkL p l = 0) (h1 : ∀ y ∈ l, y.day + 2 ≤ x.day) (h2 : p + 2 ≤ x.day) (h3 : 1 ≤ x.day) (h4 : x.day < 84005) : chkL p (l ++ [x]) = 0 := by
  induction l generalizing p with
  | nil => simp only [List.nil_append, chkL]; rw [if_neg (by omega), if_neg (by omega)]
  | cons y l ih =>
    obtain ⟨a, b, c, d⟩ := chkL_cons h
    simp only [List.cons_append, chkL]
    rw [if_neg (by omega), if_neg (by omega)]
    exact ih d (fun z hz => h1 z (by simp [hz])) (h1 y (by simp))
theorem more_all {up : Bool} {l : List RLeap} {d : Int} (h : ∀ x ∈ l, x.up = up ∧ x.day < d) : moreL l d = if up = true then (l.length : Int) else -(l.length : Int) := by
  induction l with
  | nil => simp [moreL]
  | cons x l ih =>
    have hx := h x (by simp)
    unfold moreL
    rw [if_pos hx.2, ih (fun z hz => h z (by simp [hz]))]
    unfold byL
    rw [hx.1]
    cases up <;> simp <;> omega
structure Built (i : Nat) (up : Bool) (D : Int) (zs : List RLeap) : Prop where
  len : zs.length ≤ i
  i20 : i ≤ 20
  chk : chkL (-1) zs = 0
  all : ∀ x ∈ zs, x.up = up ∧ x.day ≤ D ∧ i64B x.day
  d0 : 0 ≤ D
  d1 : D ≤ 1002 * i
theorem Built.skip {i : Nat} {up : Bool} {D : Int} {zs : List RLeap} (h : Built i up D zs) (hi : i < 20) : Built (i + 1) up D zs :=
  ⟨by have := h.len; omega, by omega, h.chk, h.all, h.d0, by have := h.d1; omega⟩
theorem Built.add {i : Nat} {up : Bool} {D k : Int} {zs : List RLeap} (h : Built i up D zs) (hi : i < 20) (k0 : 0 ≤ k) (k1 : k ≤ 1000) : Built (i + 1) up (D + 2 + k) (zs ++ [⟨D + 2 + k, up⟩]) := by
  have q0 := h.d0
  have q1 := h.d1
  refine ⟨by have := h.len; simp; omega, by omega, chkL_snoc h.chk (fun y hy => ?_) ?_ ?_ ?_, fun x hx => ?_, by omega, by omega⟩
  · have := (h.all y hy).2.1; show y.day + 2 ≤ D + 2 + k; omega
  · show (-1 : Int) + 2 ≤ D + 2 + k; omega
  · show (1 : Int) ≤ D + 2 + k; omega
  · show D + 2 + k < 84005; omega
  · rcases List.mem_append.1 hx with hx | hx
    · obtain ⟨a, b, c⟩ := h.all x hx
      exact ⟨a, by omega, c⟩
    · have : x = ⟨D + 2 + k, up⟩ := by simpa using hx
      subst this
      exact ⟨rfl, by show D + 2 + k ≤ D + 2 + k; omega, by unfold i64B; show _ ≤ D + 2 + k ∧ D + 2 + k ≤ _; omega⟩
theorem Built.good {i : Nat} {up : Bool} {D : Int} {zs : List RLeap} (h : Built i up D zs) : LeapGood zs ∧ beginL zs (D + 3) ≤ 86400 * (D + 3) + 100 ∧ 86400 * (D + 3) + 100 < beginL zs (D + 3 + 1) ∧ moreL zs (D + 3) = (if up = true then (zs.length : Int) else -(zs.length : Int)) := by
  have g : LeapGood zs := ⟨by have := h.len; have := h.i20; omega, h.chk⟩
  have b1 := beginL_bd g (D + 3)
  have b2 := beginL_bd g (D + 3 + 1)
  exact ⟨g, by omega, by omega, more_all fun x hx => ⟨(h.all x hx).1, by have := (h.all x hx).2.1; omega⟩⟩
theorem infoLeap : (Try.prog.info? 25).map (fun i => (i.zero, i.size, i.bytes)) = some (some (.agg #[.int .i64 0, .bool false]), 2, 16) := by kernel_rfl
theorem leap_one (x : RLeap) : ∀ u ∈ x.cells, u.oneCell' = true := by intro u hu; simp [RLeap.cells] at hu; rcases hu with rfl | rfl <;> rfl
theorem leap_news (w : World) (x : RLeap) (T : TypeId) : ∀ j u, x.cells[j]? = some u → (w.alloc (.cells #[.int .i64 x.day, .bool x.up] T)).cell? ((⟨w.heap.size, 0, none⟩ : Addr).add j) = some u := cell_new w x.cells T
set_option maxRecDepth 100000 in
set_option maxHeartbeats 4000000 in
theorem walk (a0 : Option Addr) (n0 c0 : Nat) (z0 : List Int) (a1 : Bool) (w : World) (h0 : IsInts w a0 n0 c0 z0) :
    Calls Try.prog 3 #[.slice a0 n0 c0, .bool a1] w fun e w' => e = .returned (.bool true) ∧ Below w.heap.size w w' := by
  obtain ⟨i0, hi, hz0, hz1, hz2⟩ := info_parts infoLeap
  obtain ⟨p1, p2, p3, p4, p5⟩ := h0
  unfold maxLen at p3
  have H1 := Lib.hid p1
  have H4 := Lib.hid p4
  have H5 := Lib.hid p5
  clear p1 p4 p5
  go_enter Try.func3, Try.ntmps3
  go_wp2_with fail
  go_loopw [5, 6, 7] (fun lv dv iv wr => ∃ (i : Nat) (D : Int) (zs : List RLeap), i ≤ n0 ∧ iv = .int .i64 i ∧ dv = .int .i64 D ∧ Built i a1 D zs ∧ wr.ownsRow w.heap.size 25 2 lv zs.length (zs.flatMap RLeap.cells) ∧ Below w.heap.size w wr)
    (fun _ _ iv _ => n0 - (intOf iv).toNat)
  case atStart => exact ⟨0, 0, [], by omega, rfl, rfl, ⟨by simp, by omega, rfl, by simp, by omega, by omega⟩, own_nil _ _ _ _, Below.refl _ _⟩
  case round =>
    obtain ⟨i, D, zs, hin, rfl, rfl, hb, ho, hB⟩ := hrel
    have d0 := hb.d0
    have d1' := hb.d1
    have hzz := hB.size
    by_cases d1 : i < n0 ∧ i < 20
    · obtain ⟨d1, d2⟩ := d1
      obtain ⟨b, off, rfl, hbl, hc⟩ := H5.out (by omega)
      obtain ⟨z, hz⟩ : ∃ z, z0[i]? = some z := ⟨_, List.getElem?_eq_getElem (by rw [H1.out]; omega)⟩
      have x0 := (hB.cell (p := ⟨b, off + i * 1 + 0, none⟩) hbl).trans (hc i z hz 0 _ rfl)
      simp only [Nat.mul_one, Nat.add_zero] at x0
      have HBt := Lib.hid hb
      have HO := Lib.hid ho
      have HB := Lib.hid hB
      clear hc hz hb ho hB
      by_cases g1 : z < 0
      · go_wp2_with fail
        go_roundw
        case rel => exact ⟨i + 1, D, zs, by omega, by go_num, rfl, HBt.out.skip d2, HO.out, HB.out⟩
        case measure => simp [intOf]; omega
      by_cases g2 : 1000 < z
      · go_wp2_with fail
        go_roundw
        case rel => exact ⟨i + 1, D, zs, by omega, by go_num, rfl, HBt.out.skip d2, HO.out, HB.out⟩
        case measure => simp [intOf]; omega
      have HN := Lib.hid (HBt.out.add d2 (show 0 ≤ z by omega) (by omega))
      have hlen : zs.length ≤ 20 := by have := HBt.out.len; omega
      have hlen := Lib.hid hlen
      go_wp2_with (at_builtin; refine wpList_append_own _ rfl _ _ 23 rfl w.heap.size 25 i0 (.agg #[.int .i64 0, .bool false]) 2 16 Try.underlying23 hi hz0 hz1 hz2 rfl (by decide) _ _ _ rfl (HO.out.alloc _) ⟨wr.heap.size, 0, none⟩ 1 1 _ rfl rfl (leap_news wr ⟨D + 2 + z, a1⟩ _) (leap_one _) (by have := hlen.out; unfold maxLen; omega) (by have := hlen.out; omega) (by simp; omega) ?_; intro v' w1 ho1 hg1 _)
      have hb2 : Below w.heap.size w w1 := (HB.out.alloc (by omega) _).grown hg1 (by simp; omega) (fun k hk => (HO.out.lt k hk).1)
      have HB2 := Lib.hid hb2
      have HO2 := Lib.hid (own_snoc RLeap.cells (z := ⟨D + 2 + z, a1⟩) ho1)
      clear ho1 hg1 hb2
      go_wp2_with fail
      go_roundw
      case rel => exact ⟨i + 1, D + 2 + z, _, by omega, by go_num, rfl, HN.out, HO2.out, HB2.out⟩
      case measure => simp [intOf]; omega
    · obtain ⟨g, k1, k2, hm⟩ := hb.good
      obtain ⟨A, n, c, rfl, hr⟩ := own_recs RLeap.cells RLeap.ok 2 (fun _ => rfl) ho (fun x hx => (hb.all x hx).2.2)
      have hi20 := hb.i20
      have hn := hr.1
      have C0 := leap_Check A n c zs wr hr
      rw [leapsC_of g] at C0
      have C1 := fun w' (hb : Below wr.heap.size wr w') => leap_Ahead A n c zs (86400 * (D + 3) + 100) (D + 3) w' (hr.below hb) g (by omega) (by omega) k1 k2
      have hnl : n ≤ 20 := by have := g.len; omega
      rw [hm, hn] at C1
      have C0 := Lib.hid C0
      have HB := Lib.hid hB
      clear hb ho hB hr hn hm k1 k2 g
      have hend : i < n0 ∧ ¬ i < 20 ∨ ¬ i < n0 := by omega
      clear d1
      cases a1
      all_goals
        first | rw [if_pos rfl] at C1 | rw [if_neg (by simp)] at C1
        have C1 := Lib.hid C1
        rcases hend with ⟨d3, d4⟩ | d3
        all_goals
          go_wp2_with fail
          (try (go_at_call 4; refine (C0.out).mono ?_; rintro e w1 ⟨rfl, hb1⟩; obtain ⟨hc1, hf1⟩ := bcell hb1; have hz1 := hb1.size; (try simp at hz1); (try have q1_0_0_0 : w.heap.size < w1.heap.size := by omega); (try have q1_0_0_2 : w.heap.size < w1.heap.size + 1 + 1 := by omega); (try have q1_0_0_3 : w.heap.size < w1.heap.size + 1 + 1 + 1 := by omega); (try have q1_0_1_0 : w.heap.size + 1 < w1.heap.size := by omega); (try have q1_0_1_2 : w.heap.size + 1 < w1.heap.size + 1 + 1 := by omega); (try have q1_0_1_3 : w.heap.size + 1 < w1.heap.size + 1 + 1 + 1 := by omega); (try have q1_0_2_0 : w.heap.size + 1 + 1 < w1.heap.size := by omega); (try have q1_0_2_2 : w.heap.size + 1 + 1 < w1.heap.size + 1 + 1 := by omega); (try have q1_0_2_3 : w.heap.size + 1 + 1 < w1.heap.size + 1 + 1 + 1 := by omega); (try have q1_0_3_0 : w.heap.size + 1 + 1 + 1 < w1.heap.size := by omega); (try have q1_0_3_2 : w.heap.size + 1 + 1 + 1 < w1.heap.size + 1 + 1 := by omega); (try have q1_0_3_3 : w.heap.size + 1 + 1 + 1 < w1.heap.size + 1 + 1 + 1 := by omega); (try go_wp2_with fail)))
          (try (go_at_call 5; refine (C1.out _ (by repeat (first | with_reducible exact Below.refl _ _ | (with_reducible refine Below.alloc ?_ (by first | omega | (simp; done) | (simp; omega)) _) | (with_reducible refine Below.setCell ?_ (by first | omega | (simp; done) | (simp; omega)) _) | (with_reducible refine Below.drew ?_) | (with_reducible refine below_drewN ?_ _) | (with_reducible assumption) | (with_reducible refine bel_step (by with_reducible assumption) ?_ (by first | omega | (simp; done) | (simp; omega)))))).mono ?_; rintro e w2 ⟨rfl, hb2⟩; obtain ⟨hc2, hf2⟩ := bcell hb2; have hz2 := hb2.size; (try simp at hz2); (try have q2_0_0_0 : w.heap.size < w2.heap.size := by omega); (try have q2_0_0_2 : w.heap.size < w2.heap.size + 1 + 1 := by omega); (try have q2_0_0_3 : w.heap.size < w2.heap.size + 1 + 1 + 1 := by omega); (try have q2_0_1_0 : w.heap.size + 1 < w2.heap.size := by omega); (try have q2_0_1_2 : w.heap.size + 1 < w2.heap.size + 1 + 1 := by omega); (try have q2_0_1_3 : w.heap.size + 1 < w2.heap.size + 1 + 1 + 1 := by omega); (try have q2_0_2_0 : w.heap.size + 1 + 1 < w2.heap.size := by omega); (try have q2_0_2_2 : w.heap.size + 1 + 1 < w2.heap.size + 1 + 1 := by omega); (try have q2_0_2_3 : w.heap.size + 1 + 1 < w2.heap.size + 1 + 1 + 1 := by omega); (try have q2_0_3_0 : w.heap.size + 1 + 1 + 1 < w2.heap.size := by omega); (try have q2_0_3_2 : w.heap.size + 1 + 1 + 1 < w2.heap.size + 1 + 1 := by omega); (try have q2_0_3_3 : w.heap.size + 1 + 1 + 1 < w2.heap.size + 1 + 1 + 1 := by omega); (try have q2_1_0_0 : w1.heap.size < w2.heap.size := by omega); (try have q2_1_0_2 : w1.heap.size < w2.heap.size + 1 + 1 := by omega); (try have q2_1_1_0 : w1.heap.size + 1 < w2.heap.size := by omega); (try have q2_1_1_2 : w1.heap.size + 1 < w2.heap.size + 1 + 1 := by omega); (try go_wp2_with fail)))
          go_ret
          exact ⟨rfl, by have hB := HB.out; exact (by repeat (first | with_reducible exact Below.refl _ _ | (with_reducible refine Below.alloc ?_ (by first | omega | (simp; done) | (simp; omega)) _) | (with_reducible refine Below.setCell ?_ (by first | omega | (simp; done) | (simp; omega)) _) | (with_reducible refine Below.drew ?_) | (with_reducible refine below_drewN ?_ _) | (with_reducible assumption) | (with_reducible refine bel_step (by with_reducible assumption) ?_ (by first | omega | (simp; done) | (simp; omega)))))⟩

set_option maxRecDepth 100000 in
theorem lifted (os : Os) (started : os.Started) (H : Type) (enc : TypeId × Value → H) :
    ReturnsInHanded {} Try.checked os 3 .any (Rows.leapCountsSpec.pre6 enc Try.prog Try.f3 Rows.leapCountsRow.domain false) (Rows.leapCountsSpec.post enc Try.prog Try.f3 false true false false) := by
  refine returnsInHanded_of_change (C := Try.checked) own started (by kernel_rfl) Try.func3
    (ChangeSpec.witness6 (enc := enc) (C := Try.checked) false ⟨#[], #[.slice none 0 0, .bool false], []⟩ 8 (by kernel_rfl) (by kernel_rfl) (by kernel_rfl) (by kernel_rfl)) ?_
  intro W base args ds gs before hval0 hW hcnd hreach
  have hval : ∀ (j : Nat) t v, Try.f3.params[j]? = some t → args[j]? = some v → Value.okWide Try.prog W .any base t v := hval0
  have hW' := hW
  obtain ⟨p, q, hA0, hV, rfl, hfz, hnd⟩ := hW
  have hA : DataW.TrodAll enc Try.prog W 0 (fun _ => true) true Try.f3.params.toList args.toList ds p := hA0
  rw [Try.params3] at hA hval
  obtain ⟨v0, vs0, d0, ds0, p0, q0, hargs, rfl, rfl, g0, r0⟩ := trodAll_cons hA
  obtain ⟨v1, vs1, d1, ds1, p1, q1, rfl, rfl, rfl, g1, r1⟩ := trodAll_cons r0
  obtain ⟨rfl, rfl, rfl⟩ := trodAll_nil r1
  obtain rfl : args = #[v0, v1] := by cases args; simp_all
  obtain ⟨rfl, rfl⟩ := trodVars_none hV
  have k0 := g0
  have lt0 : ∀ x ∈ p0, x.block < W.heap.size := by obtain ⟨m, hm⟩ := k0; exact DataW.trod_lt m _ _ _ hm
  have rd0 : Try.prog.readableRec 22 = true := by kernel_rfl
  have ls0 : 22 < Try.prog.types.size := of_decide_eq_true (by kernel_rfl)
  obtain ⟨a0, n0, c0, z0, rfl, h0⟩ := open_Ints (hval 0 22 v0 rfl rfl) g0
  obtain ⟨a1, rfl, rfl, rfl⟩ := open_bool Try.underlying4 (hval 1 4 v1 rfl rfl) g1
  clear hA0 hval0
  refine (walk a0 n0 c0 z0 a1 W h0).mono fun e W' ⟨he, bel⟩ => ?_
  subst he
  exact ⟨_, rfl, _, _, _, [], _, [], hW', trodAll_mk1 (shut_bool Try.underlying4 _), (trodAll_cons_mk (Below.trod laidOut rd0 ls0 k0 bel lt0) (trodAll_cons_mk (shut_bool Try.underlying4 _) trodAll_mk0)), rfl, bel.frame _, fun h => by cases h⟩

theorem over : Rows.leapCountsRow.holds Try.pinned (OpenSpec.ofChange Rows.leapCountsSpec) :=
  OpenClaim.holds_of_wide 3 Try.f3 rfl rfl rfl rfl rfl rfl rfl ⟨rfl, rfl, rfl, rfl, rfl⟩ rfl rfl rfl rfl rfl (by kernel_rfl) Try.func3 (by kernel_rfl)
    (of_decide_eq_true (by kernel_rfl)) (by unfold Func.isWrapper; rw [if_neg (of_decide_eq_false (by kernel_rfl))]; exact ⟨rfl, rfl⟩)
    (fun os started H enc _ => lifted os started H enc)

/-- the statement -/
theorem proved : Rows.LeapCountsSaid := over

#print axioms proved
end Go.Proofs.Ytcigoleplhdlaaa.lLeapCounts
