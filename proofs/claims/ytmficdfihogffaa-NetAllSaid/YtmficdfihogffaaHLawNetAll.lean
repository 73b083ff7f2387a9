/- Proved: noonlaw4.NetAll answers true for every input: when one node asked all others, and all came back, each two have a bound, and all are wide. Its conditions: none. -/
import Derived.Test.YtmficdfihogffaaHG1
import Derived.Test.YtmficdfihogffaaHNetN
import Derived.Test.YtmficdfihogffaaHNetD
import Derived.Test.YtmficdfihogffaaHNetX
import Derived.Test.YtmficdfihogffaaHAllN
import Derived.Deep.AppendLies
import Derived.Deep.DeepCutAuto
import Derived.Deep.CutBlock
import Derived.Deep.Light
namespace Go.Proofs.Ytmficdfihogffaa.lNetAll
open Go.ChangeShapes Go.WideShapes Go.ChangeAt Go.RowKit
set_option linter.unusedVariables false
set_option linter.unusedSimpArgs false
theorem int_one (z : Int) : ∀ u ∈ intCells z, u.oneCell' = true := by intro u hu; simp [intCells] at hu; subst hu; rfl
theorem own_keptP {P : Nat → Prop} {w w' : World} {B : Nat} {T : TypeId} {k n : Nat} {v : Value} {xs : List Value} (h : w.ownsRow B T k v n xs) (hK : Kept P w w') (hP : ∀ q, v.ownBlock = some q → ¬ P q) : w'.ownsRow B T k v n xs := by
  have hlt := h.lt
  refine ⟨h.1, ?_⟩
  rcases h.2 with e | ⟨g, cap, cur, rfl, hB, hg, hn, hm, hs, ht⟩
  · exact .inl e
  · exact .inr ⟨g, cap, cur, rfl, hB, (hK.block g (hlt g rfl).2 (hP g rfl)).trans hg, hn, hm, hs, ht⟩
theorem grown_kept {w w' : World} {row : Option Nat} (hg : w.grownBy w' row) : Kept (fun k => row = some k) w w' :=
  (Kept.refl _ w).grown hg (fun k e => .inl e)
theorem own_one {gg n cap q : Nat} (e : (Value.slice (some ⟨gg, 0, none⟩) n cap).ownBlock = some q) : gg = q := by simpa [Value.ownBlock] using e
/-- two rows of numbers. -/
structure TwoI (w : World) (B : Nat) (u v : Value) (X Y : List Int) : Prop where
  a : w.ownsRow B 3 1 u X.length (X.flatMap intCells)
  b : w.ownsRow B 3 1 v Y.length (Y.flatMap intCells)
  ne : ∀ q, u.ownBlock = some q → v.ownBlock ≠ some q
variable {w w' : World} {B : Nat} {u v : Value} {X Y : List Int}
theorem TwoI.nil (w : World) (B : Nat) : TwoI w B (.slice none 0 0) (.slice none 0 0) [] [] := ⟨own_nil _ _ _ _, own_nil _ _ _ _, fun q e => by simp [Value.ownBlock] at e⟩
theorem TwoI.below (h : TwoI w B u v X Y) (hb : Below w.heap.size w w') : TwoI w' B u v X Y := ⟨own_below h.a hb, own_below h.b hb, h.ne⟩
theorem TwoI.pushA {gg cap : Nat} {z : Int} (h : TwoI w B u v X Y) (hg : w.grownBy w' u.ownBlock) (hgg : u.ownBlock = some gg ∨ gg = w.heap.size) (ho : w'.ownsRow B 3 1 (.slice (some ⟨gg, 0, none⟩) (X.length + 1) cap) (X.length + 1) (X.flatMap intCells ++ intCells z)) : TwoI w' B (.slice (some ⟨gg, 0, none⟩) (X.length + 1) cap) v (X ++ [z]) Y := by
  have hl := h.b.lt
  refine ⟨own_snoc intCells ho, own_keptP h.b (grown_kept hg) (fun q e e2 => h.ne q e2 e), fun q e e2 => ?_⟩
  have := own_one e
  subst this
  rcases hgg with e3 | e3
  · exact h.ne _ e3 e2
  · have := (hl _ e2).2; omega
theorem TwoI.pushB {gg cap : Nat} {z : Int} (h : TwoI w B u v X Y) (hg : w.grownBy w' v.ownBlock) (hgg : v.ownBlock = some gg ∨ gg = w.heap.size) (ho : w'.ownsRow B 3 1 (.slice (some ⟨gg, 0, none⟩) (Y.length + 1) cap) (Y.length + 1) (Y.flatMap intCells ++ intCells z)) : TwoI w' B u (.slice (some ⟨gg, 0, none⟩) (Y.length + 1) cap) X (Y ++ [z]) := by
  have hl := h.a.lt
  refine ⟨own_keptP h.a (grown_kept hg) (fun q e e2 => h.ne q e e2), own_snoc intCells ho, fun q e e2 => ?_⟩
  have := own_one e2
  subst this
  rcases hgg with e3 | e3
  · exact h.ne _ e e3
  · have := (hl _ e).2; omega
set_option maxRecDepth 100000 in
set_option maxHeartbeats 32000000 in
theorem walk (a0 : Int) (a1 : Int) (w : World) (h0 : -9223372036854775808 ≤ a0 ∧ a0 ≤ 9223372036854775807) (h1 : -9223372036854775808 ≤ a1 ∧ a1 ≤ 9223372036854775807) :
    Calls Try.prog 3 #[.int .i64 a0, .int .i64 a1] w fun e w' => e = .returned (.bool true) ∧ Below w.heap.size w w' := by
  obtain ⟨i0, hi, hz0, hz1, hz2⟩ := info_parts infoI64
  clear h0 h1
  go_enter Try.func3, Try.ntmps3
  by_cases c1 : a0 < 2
  · have b1 : decide (a0 < 2) = true := by simp; omega
    go_wp2_with fail
    go_ret
    exact ⟨rfl, Below.refl _ _⟩
  by_cases c2 : 6 < a0
  · have b1 : decide (a0 < 2) = false := by simp; omega
    have b2 : decide (6 < a0) = true := by simp; omega
    go_wp2_with fail
    go_ret
    exact ⟨rfl, Below.refl _ _⟩
  by_cases c3 : a1 < 0
  · have b1 : decide (a0 < 2) = false := by simp; omega
    have b2 : decide (6 < a0) = false := by simp; omega
    have b3 : decide (a1 < 0) = true := by simp; omega
    go_wp2_with fail
    go_ret
    exact ⟨rfl, Below.refl _ _⟩
  by_cases c4 : 1000 < a1
  · have b1 : decide (a0 < 2) = false := by simp; omega
    have b2 : decide (6 < a0) = false := by simp; omega
    have b3 : decide (a1 < 0) = false := by simp; omega
    have b4 : decide (1000 < a1) = true := by simp; omega
    go_wp2_with fail
    go_ret
    exact ⟨rfl, Below.refl _ _⟩
  have b1 : decide (a0 < 2) = false := by simp; omega
  have b2 : decide (6 < a0) = false := by simp; omega
  have b3 : decide (a1 < 0) = false := by simp; omega
  have b4 : decide (1000 < a1) = false := by simp; omega
  obtain ⟨N, rfl⟩ := Int.eq_ofNat_of_zero_le (show 0 ≤ a0 by omega)
  have n2 : 2 ≤ N := by omega
  have n6 : N ≤ 6 := by omega
  have t0 : 0 ≤ a1 := by omega
  have t1 : a1 ≤ 1000 := by omega
  clear c1 c2 c3 c4
  go_upto_if 29 with (fail)
  clear b1 b2 b3 b4
  go_wp2_with fail
  go_loopw [5, 6, 7] (fun uv vv iv wx => ∃ i : Nat, iv = .int .i64 i ∧ i ≤ N ∧ TwoI wx w.heap.size uv vv (tensL i) (fivesL i) ∧ Below w.heap.size w wx) (fun _ _ iv _ => N - (intOf iv).toNat)
  case atStart => exact ⟨0, rfl, by omega, TwoI.nil _ _, Below.refl _ _⟩
  case round =>
    obtain ⟨i, rfl, hiN, hT, hB⟩ := hrel
    have HT := Lib.hid hT
    have HB := Lib.hid hB
    have hzr := hB.size
    clear hT hB
    by_cases d1 : i < N
    · have d2 : (i : Int) < (N : Int) := by omega
      have l1 := tensL_len i
      have l2 := fivesL_len i
      have L1 := Lib.hid l1
      have L2 := Lib.hid l2
      have w1 := IntWalk.i64_in (10 * (i : Int)) (by omega)
      have w2 := IntWalk.i64_in (5 * (i : Int)) (by omega)
      have hbal := Lib.hid (fun o => (Below.refl wr.heap.size wr).alloc (Nat.le_refl _) o)
      clear l1 l2
      go_wp2_with (at_builtin; first
        | (refine wpList_append_lies _ rfl _ _ 22 rfl w.heap.size 3 i0 (.int .i64 0) 1 8 Try.underlying22 hi hz0 hz1 hz2 rfl (by decide) _ (tensL i).length _ rfl (HT.out.a.alloc _) ⟨wr.heap.size, 0, none⟩ 1 1 _ rfl rfl (cell_new wr (intCells (10 * (i : Int))) _) (int_one _) (by decide) (by have := L1.out; unfold maxLen; omega) (by have := L1.out; omega) (by simp; omega) _ rfl ?_; intro g1 cap1 wa ho1 hg1 hgg1 hlt1; have hs1 := hg1.size; (try simp at hs1))
        | (refine wpList_append_lies _ rfl _ _ 22 rfl w.heap.size 3 i0 (.int .i64 0) 1 8 Try.underlying22 hi hz0 hz1 hz2 rfl (by decide) _ (fivesL i).length _ rfl (((HT.out.below (hbal.out _)).pushA hg1 hgg1 ho1).b.alloc _) ⟨wa.heap.size, 0, none⟩ 1 1 _ rfl rfl (cell_new wa (intCells (5 * (i : Int))) _) (int_one _) (by decide) (by have := L2.out; unfold maxLen; omega) (by have := L2.out; omega) (by simp; omega) _ rfl ?_; intro g2 cap2 wb ho2 hg2 hgg2 hlt2))
      have HTa := Lib.hid ((HT.out.below (hbal.out (.cells #[.int .i64 (10 * (i : Int))] 3))).pushA hg1 hgg1 ho1)
      have HBa := Lib.hid (show Below w.heap.size w wa from (HB.out.alloc hzr _).grown hg1 (by simp; omega) (fun q e => (HT.out.a.lt q e).1))
      have hza := HBa.out.size
      have hbl := (Below.refl wa.heap.size wa).alloc (Nat.le_refl _) (.cells #[.int .i64 (5 * (i : Int))] 3)
      have HTb := Lib.hid ((HTa.out.below hbl).pushB hg2 hgg2 ho2)
      have HBb := Lib.hid (show Below w.heap.size w wb from (HBa.out.alloc hza _).grown hg2 (by simp; omega) (fun q e => (HTa.out.b.lt q e).1))
      have HS1 := Lib.hid (tensL_succ i)
      have HS2 := Lib.hid (fivesL_succ i)
      clear ho1 hg1 hgg1 ho2 hg2 hgg2 hbl hs1 w1 w2
      go_wp2_with fail
      go_roundw
      case rel => exact ⟨i + 1, by go_num, by omega, by rw [HS1.out, HS2.out]; exact HTb.out, HBb.out⟩
      case measure => go_light; simp [intOf]; omega
    · obtain rfl : i = N := by omega
      obtain ⟨A1, m1, c1, e1, hI1⟩ := own_recs intCells i64B 1 (fun _ => rfl) HT.out.a (fun z hz => tensL_ok n6 hz)
      obtain ⟨A2, m2, c2, e2, hI2⟩ := own_recs intCells i64B 1 (fun _ => rfl) HT.out.b (fun z hz => fivesL_ok n6 hz)
      obtain rfl : m1 = i := by rw [← hI1.1, tensL_len]
      obtain rfl : m2 = m1 := by rw [← hI2.1, fivesL_len]
      have hc1 := hI1.2.2.1
      have hc2 := hI2.2.2.1
      have hd1 := hI1.2.1
      have hd2 := hI2.2.1
      unfold maxLen at hc1 hc2
      have HNC := Lib.hid (all_newC n2 n6)
      have HT0 := Lib.hid (new_true (n := m2) HNC.out (tensL_len m2))
      have LS := Lib.hid (tensL_len m2)
      have LR := Lib.hid (fivesL_len m2)
      have CN := Lib.hid (net_New A1 m2 c1 (tensL m2) A2 m2 c2 (fivesL m2) 100 wr hI1 hI2 HNC.out)
      rw [e1, e2]
      clear hI1 hI2 e1 e2 HT
      go_wp2_with fail
      refine CN.out.mono ?_
      rintro e w6 ⟨a, rfl, han, hgw, hN, hb6⟩
      subst han
      have HB6 := Lib.hid (HB.out.trans (hb6.mono hzr))
      have hga : w.heap.size ≤ a.g := by omega
      have HN6 := Lib.hid hN
      have hz6 := HB6.out.size
      clear hgw hN hb6 HB CN HNC
      obtain ⟨X, eX⟩ : ∃ X, tensL a.n = X := ⟨_, rfl⟩
      obtain ⟨Y, eY⟩ : ∃ Y, fivesL a.n = Y := ⟨_, rfl⟩
      rw [eX] at HT0 LS HN6
      rw [eY] at HT0 LR HN6
      clear eX eY
      go_wp2_with fail
      go_loopw [10] (fun iv wx => ∃ (i K : Nat) (t : Int) (uv : Value) (S : Nat → NSt), iv = .int .i64 i ∧ 1 ≤ i ∧ i ≤ a.n ∧ K ≤ 5 * i ∧ 0 ≤ t ∧ t ≤ 2000 * (i : Int) ∧ NetAt wx a X Y 100 t uv [] K S ∧ TrueN a.n X Y 100 t [] S ∧ StarN a.n S i ∧ Below w.heap.size w wx) (fun iv _ => a.n - (intOf iv).toNat)
      case atStart => exact ⟨1, 0, 0, _, _, rfl, by omega, by omega, by omega, by omega, by omega, HN6.out, HT0.out, StarN.start _ _, HB6.out⟩
      case round =>
        obtain ⟨i, K, t, uv, S, rfl, hi1, hiN, hK, ht0, ht1, hN, hT, hS, hB⟩ := hrel
        have HNr := Lib.hid hN
        have HTr := Lib.hid hT
        have HSr := Lib.hid hS
        have HBr := Lib.hid hB
        have hzr := hB.size
        clear hN hT hS hB HN6 HT0 HB6
        by_cases d1 : i < a.n
        · have d2 : (i : Int) < (a.n : Int) := by omega
          have okA : RAct.ok ⟨2, 0, (i : Int)⟩ := by unfold RAct.ok i64B; simp; omega
          have okG : RAct.ok ⟨1, a1, 0⟩ := by unfold RAct.ok i64B; simp; omega
          have okD : RAct.ok ⟨3, 0, 0⟩ := by unfold RAct.ok i64B; simp
          have q1 : NAct a.n X Y t [] S ⟨2, 0, (i : Int)⟩ 0 t [⟨0, (i : Int), false, 0, 0, hereAt X Y t 0⟩] S := ask_act LS.out LR.out (i := 0) (k := i) (by omega) d1 (by omega)
          have T1 := (nact_true HTr.out LS.out q1).1
          have q2 : NAct a.n X Y t [⟨0, (i : Int), false, 0, 0, hereAt X Y t 0⟩] S ⟨1, a1, 0⟩ 0 (t + a1) [⟨0, (i : Int), false, 0, 0, hereAt X Y t 0⟩] S := go_act t0 (by omega) (by omega)
          have T2 := (nact_true T1 LS.out q2).1
          have q3 : NAct a.n X Y (t + a1) [⟨0, (i : Int), false, 0, 0, hereAt X Y t 0⟩] S ⟨3, 0, 0⟩ 0 (t + a1) [⟨(i : Int), 0, true, hereAt X Y t 0, hereAt X Y (t + a1) i, hereAt X Y (t + a1) i⟩] (updS S i ((S i).heard (hereAt X Y (t + a1) i))) := told_ask T2 LS.out LR.out (i := 0) (k := i) (by omega) d1 (by omega) _
          have T3 := (nact_true T2 LS.out q3).1
          obtain ⟨S1, eS1⟩ : ∃ S1, updS S i ((S i).heard (hereAt X Y (t + a1) i)) = S1 := ⟨_, rfl⟩
          have HSt := Lib.hid (fun h0 lo hi => by have := HSr.out.step (h0 := h0) (h1 := hereAt X Y (t + a1) i) (lo := lo) (hi := hi) (show i ≠ 0 by omega); rw [eS1] at this; exact this)
          rw [eS1] at q3 T3
          have q4 : NAct a.n X Y (t + a1) [⟨(i : Int), 0, true, hereAt X Y t 0, hereAt X Y (t + a1) i, hereAt X Y (t + a1) i⟩] S1 ⟨1, a1, 0⟩ 0 (t + a1 + a1) [⟨(i : Int), 0, true, hereAt X Y t 0, hereAt X Y (t + a1) i, hereAt X Y (t + a1) i⟩] S1 := go_act t0 (by omega) (by omega)
          have T4 := (nact_true T3 LS.out q4).1
          obtain ⟨lo, hi', q5⟩ := told_ans LS.out LR.out T4 (i := 0) (k := i) (by omega) d1 (by omega) rfl rfl rfl
          have T5 := Lib.hid (nact_true T4 LS.out q5).1
          have HS5 := Lib.hid (HSt.out (hereAt X Y (t + a1 + a1) 0) lo hi')
          obtain ⟨S2, eS2⟩ : ∃ S2, updS S1 0 ((S1 0).learn (i : Int) (hereAt X Y (t + a1 + a1) 0) lo hi') = S2 := ⟨_, rfl⟩
          rw [eS2] at q5 T5 HS5
          have Q1 := Lib.hid q1
          have Q2 := Lib.hid q2
          have Q3 := Lib.hid q3
          have Q4 := Lib.hid q4
          have Q5 := Lib.hid q5
          clear q1 q2 q3 q4 q5 T1 T2 T3 T4 HTr HSr HSt eS1 eS2
          go_wp2_with fail
          refine (net_Do a _ _ _ _ _ _ _ _ _ _ _ ⟨2, 0, (i : Int)⟩ _ wr HNr.out okA (by omega) Q1.out).mono ?_
          rintro e w1 ⟨rfl, uv1, hN1, hK1, _⟩
          have HB1 := Lib.hid (HNr.out.done HBr.out hga hK1)
          have HN1 := Lib.hid hN1
          clear hN1 hK1 HNr HBr Q1
          go_wp2_with fail
          refine (net_Do a _ _ _ _ _ _ _ _ _ _ _ ⟨1, a1, 0⟩ _ w1 HN1.out okG (by omega) Q2.out).mono ?_
          rintro e w2 ⟨rfl, uv2, hN2, hK2, _⟩
          have HB2 := Lib.hid (HN1.out.done HB1.out hga hK2)
          have HN2 := Lib.hid hN2
          clear hN2 hK2 HN1 HB1 Q2
          go_wp2_with fail
          refine (net_Do a _ _ _ _ _ _ _ _ _ _ _ ⟨3, 0, 0⟩ _ w2 HN2.out okD (by omega) Q3.out).mono ?_
          rintro e w3 ⟨rfl, uv3, hN3, hK3, _⟩
          have HB3 := Lib.hid (HN2.out.done HB2.out hga hK3)
          have HN3 := Lib.hid hN3
          clear hN3 hK3 HN2 HB2 Q3
          go_wp2_with fail
          refine (net_Do a _ _ _ _ _ _ _ _ _ _ _ ⟨1, a1, 0⟩ _ w3 HN3.out okG (by omega) Q4.out).mono ?_
          rintro e w4 ⟨rfl, uv4, hN4, hK4, _⟩
          have HB4 := Lib.hid (HN3.out.done HB3.out hga hK4)
          have HN4 := Lib.hid hN4
          clear hN4 hK4 HN3 HB3 Q4
          go_wp2_with fail
          refine (net_Do a _ _ _ _ _ _ _ _ _ _ _ ⟨3, 0, 0⟩ _ w4 HN4.out okD (by omega) Q5.out).mono ?_
          rintro e w5 ⟨rfl, uv5, hN5, hK5, _⟩
          have HB5 := Lib.hid (HN4.out.done HB4.out hga hK5)
          have HN5 := Lib.hid hN5
          clear hN5 hK5 HN4 HB4 Q5
          go_wp2_with fail
          go_roundw
          case rel => exact ⟨i + 1, _, _, _, _, by go_num, by omega, by omega, (by omega : K + 1 + 1 + 1 + 1 + 1 ≤ 5 * (i + 1)), by omega, by omega, HN5.out, T5.out, HS5.out, HB5.out⟩
          case measure => go_light; simp [intOf]; omega
        · obtain rfl : i = a.n := by omega
          have n2' : 2 ≤ a.n := n2
          have CO := Lib.hid (fun (x y : Nat) (hx : x < a.n) (hy : y < a.n) z c (h : OffS a.n (hereAt X Y t) S x y z c) => (HTr.out.offset_known (by omega) hx hy (HTr.out.star_way HSr.out hx hy) h).1)
          have CW := Lib.hid (fun v c h => HTr.out.star_wide HSr.out n2' (v := v) (c := c) h)
          have HNc := Lib.hid (HTr.out.netC a.n (Nat.le_refl _))
          have HEc := Lib.hid (HTr.out.edgesC (by omega))
          have HB5 := Lib.hid HBr.out
          have hz5 := hzr
          obtain ⟨w5, hw5⟩ : ∃ x : World, x = wr := ⟨_, rfl⟩
          subst hw5
          clear HTr HSr HBr hzr
          go_wp2_with fail
          go_loopw [11] (fun iv wx => ∃ i : Nat, iv = .int .i64 i ∧ i ≤ a.n ∧ Below w5.heap.size w5 wx) (fun iv _ => a.n - (intOf iv).toNat)
          case atStart => exact ⟨0, rfl, by omega, Below.refl _ _⟩
          case round =>
            obtain ⟨i, rfl, hi', hBi⟩ := hrel
            have HBi := Lib.hid hBi
            have hzi := hBi.size
            clear hBi
            by_cases g1 : i < a.n
            · have g2 : (i : Int) < (a.n : Int) := by omega
              go_wp2_with fail
              go_loopw [12] (fun jv wx => ∃ j : Nat, jv = .int .i64 j ∧ j ≤ a.n ∧ Below w5.heap.size w5 wx) (fun jv _ => a.n - (intOf jv).toNat)
              case atStart => exact ⟨0, rfl, by omega, HBi.out⟩
              case round =>
                obtain ⟨j, rfl, hj, hBj⟩ := hrel
                have HBj := Lib.hid hBj
                have hzj := hBj.size
                clear hBj HBi hzi
                by_cases g3 : j < a.n
                · have g4 : (j : Int) < (a.n : Int) := by omega
                  have COf := Lib.hid (net_Offset a X Y 100 t uv [] K S (i : Int) (j : Int) wr (HNr.out.below HBj.out))
                  have COx := Lib.hid (CO.out i j g1 g3)
                  go_wp2_with fail
                  refine COf.out.mono ?_
                  rintro e w13 ⟨x, c, rfl, hS, hb13⟩
                  obtain rfl := COx.out x c hS
                  have HB13 := Lib.hid (HBj.out.trans (hb13.mono hzj))
                  have hz13 := HB13.out.size
                  have HBa := Lib.hid (HB13.out.alloc hz13 (.cells #[.int .i64 x.lo, .int .i64 x.hi] 32))
                  by_cases hij : i = j
                  · subst hij
                    obtain rfl := off_same hS
                    clear hS hb13 COf COx
                    as_aux_lemma =>
                    go_wp2_with fail
                    go_roundw
                    case rel => exact ⟨i + 1, by go_num, by omega, HBa.out⟩
                    case measure => go_light; simp [intOf]; omega
                  · have b5 : ((i : Int) == (j : Int)) = false := by simp; omega
                    have b6 : decide ((i : Int) = (j : Int)) = false := by simp; omega
                    have b7 : (i == j) = false := by simp; omega
                    clear hS hb13 COf COx hij
                    as_aux_lemma =>
                    go_wp2_with fail
                    clear b5 b6 b7
                    go_roundw
                    case rel => exact ⟨j + 1, by go_num, by omega, HBa.out⟩
                    case measure => go_light; simp [intOf]; omega
                · obtain rfl : j = a.n := by omega
                  go_wp2_with fail
                  go_roundw
                  case rel => exact ⟨i + 1, by go_num, by omega, HBj.out⟩
                  case measure => go_light; simp [intOf]; omega
            · obtain rfl : i = a.n := by omega
              have HBz := Lib.hid (HB5.out.trans (HBi.out.mono hz5))
              have hzz := HBz.out.size
              go_wp2_with fail
              refine (net_Wide_ok a X Y 100 t uv [] K S wr (HNr.out.below HBi.out) HNc.out HEc.out).mono ?_
              rintro e w9 ⟨v, c, rfl, hW, hb9⟩
              obtain ⟨rfl, hv⟩ := CW.out v c hW
              have b5 : decide (0 < v) = true := by simp; omega
              have HB9 := Lib.hid (HBz.out.trans (hb9.mono hzz))
              rw [errV_0]
              clear hW hb9 hv
              go_wp2_with fail
              go_ret
              exact ⟨rfl, HB9.out⟩

set_option maxRecDepth 100000 in
theorem lifted (os : Os) (started : os.Started) (H : Type) (enc : TypeId × Value → H) :
    ReturnsInHanded {} Try.checked os 3 .any (Rows.netAllSpec.pre6 enc Try.prog Try.f3 Rows.netAllRow.domain false) (Rows.netAllSpec.post enc Try.prog Try.f3 false true false false) := by
  refine returnsInHanded_of_change (C := Try.checked) own started (by kernel_rfl) Try.func3
    (ChangeSpec.witness6 (enc := enc) (C := Try.checked) false ⟨#[], #[.int .i64 0, .int .i64 0], []⟩ 8 (by kernel_rfl) (by kernel_rfl) (by kernel_rfl) (by kernel_rfl)) ?_
  intro W base args ds gs before hval0 hW hcnd hreach
  have hval : ∀ (j : Nat) t v, Try.f3.params[j]? = some t → args[j]? = some v → Value.okWide Try.prog W .any base t v := hval0
  have hW' := hW
  obtain ⟨p, q, hA0, hV, rfl, hfz, hnd⟩ := hW
  have hA : DataW.TrodAll enc Try.prog W 0 (fun _ => true) true Try.f3.params.toList args.toList ds p := hA0
  rw [Try.params3] at hA hval
  obtain ⟨v0, vs0, d0, ds0, p0, q0, hargs, rfl, rfl, g0, r0⟩ := trodAll_cons hA
  obtain ⟨v1, vs1, d1, ds1, p1, q1, rfl, rfl, rfl, g1, r1⟩ := trodAll_cons r0
  obtain ⟨rfl, rfl, rfl⟩ := trodAll_nil r1
  obtain rfl : args = #[v0, v1] := by cases args; simp_all
  obtain ⟨rfl, rfl⟩ := trodVars_none hV
  obtain ⟨a0, rfl, rfl, rfl, u0⟩ := open_int Try.underlying3 (hval 0 3 v0 rfl rfl) g0
  have h0 := bounds_i64 u0
  obtain ⟨a1, rfl, rfl, rfl, u1⟩ := open_int Try.underlying3 (hval 1 3 v1 rfl rfl) g1
  have h1 := bounds_i64 u1
  clear hA0 hval0
  refine (walk a0 a1 W h0 h1).mono fun e W' ⟨he, bel⟩ => ?_
  subst he
  exact ⟨_, rfl, _, _, _, [], _, [], hW', trodAll_mk1 (shut_bool Try.underlying4 _), (trodAll_cons_mk (shut_int Try.underlying3 u0) (trodAll_cons_mk (shut_int Try.underlying3 u1) trodAll_mk0)), rfl, bel.frame _, fun h => by cases h⟩

theorem over : Rows.netAllRow.holds Try.pinned (OpenSpec.ofChange Rows.netAllSpec) :=
  OpenClaim.holds_of_wide 3 Try.f3 rfl rfl rfl rfl rfl rfl rfl ⟨rfl, rfl, rfl, rfl, rfl⟩ rfl rfl rfl rfl rfl (by kernel_rfl) Try.func3 (by kernel_rfl)
    (of_decide_eq_true (by kernel_rfl)) (by unfold Func.isWrapper; rw [if_neg (of_decide_eq_false (by kernel_rfl))]; exact ⟨rfl, rfl⟩)
    (fun os started H enc _ => lifted os started H enc)

/-- the statement -/
theorem proved : Rows.NetAllSaid := over

end Go.Proofs.Ytmficdfihogffaa.lNetAll
