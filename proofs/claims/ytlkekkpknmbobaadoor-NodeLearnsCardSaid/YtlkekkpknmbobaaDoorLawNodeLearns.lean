/- Proved: noonlaw4.NodeLearns answers true for every input and leaves its arguments as they were. Its conditions: none beyond the tied card's own. -/
import Derived.Test.YtlkekkpknmbobaaDoorDoor
import Derived.Test.YtlkekkpknmbobaaDoorNodeE
import Derived.Test.YtlkekkpknmbobaaDoorNodeS
namespace Go.Proofs.YtlkekkpknmbobaaDoor.lNodeLearns
open Go.ChangeShapes Go.WideShapes Go.ChangeAt Go.RowKit
set_option linter.unusedVariables false
set_option linter.unusedSimpArgs false
/-- the plain law. -/
structure Plain (p a b c : Int) (s1 s2 : NSt) (c2 : Int) (b2 : Bool) (l1 h1 l2 h2 : Int) : Prop where
  H1 : Hears (NSt.start 2 0 p) ⟨1, 0, true, 0, 5, 5⟩ 10 true 0 s1
  T1 : tellC s1 (10 + a + b + c) = 0
  S1 : tellS s1 (10 + a + b + c) = [⟨0, 0⟩, ⟨l1, h1⟩]
  B1 : tellB s1 (10 + a + b + c) = [true, true]
  H2 : Hears s1 ⟨1, 0, true, 10 + a, 10 + a + b, 10 + a + b⟩ (10 + a + b + c) b2 c2 s2
  C2 : c2 = 7 ∨ (c2 = 0 ∧ b2 = true ∧ tellC s2 (10 + a + b + c) = 0 ∧ tellS s2 (10 + a + b + c) = [⟨0, 0⟩, ⟨l2, h2⟩] ∧ tellB s2 (10 + a + b + c) = [true, true] ∧ h2 - l2 ≤ h1 - l1 + 4)
  bd : -2000000000000 ≤ l1 ∧ l1 ≤ 2000000000000 ∧ -2000000000000 ≤ h1 ∧ h1 ≤ 2000000000000 ∧ -2000000000000 ≤ l2 ∧ l2 ≤ 2000000000000 ∧ -2000000000000 ≤ h2 ∧ h2 ≤ 2000000000000
theorem off_ok {t1 t2 t3 t4 p : Int} (h1 : 0 ≤ t1) (h2 : t1 ≤ t4) (h3 : 0 ≤ t2) (h4 : t2 ≤ t3) (h5 : t4 ≤ 10000000) (h6 : t3 ≤ 10000000) (p0 : 0 ≤ p) (p1 : p ≤ 1000) (h7 : t1 ≤ t2) (h8 : t3 ≤ t4) :
    (offS t1 t2 t3 t4 p).c = 0 ∧ (offS t1 t2 t3 t4 p).lo = t3 - t4 ∧ (offS t1 t2 t3 t4 p).hi = t2 - t1 + slackD (t4 - t1) p := by
  have hs := slack_bd (n := t4 - t1) (p := p) (by omega) (by omega) p0 p1
  have hp : probeC t1 t2 t3 t4 = 0 := by
    rw [probeC_good (timeB_iff.2 (by omega)) (timeB_iff.2 (by omega)) (timeB_iff.2 (by omega)) (timeB_iff.2 (by omega)), if_neg (by omega)]
  have ho : okP t1 t4 p = true := by unfold okP; rw [rateB_iff.2 ⟨p0, p1⟩]; simp; omega
  have hi : offIn t1 t2 t3 t4 p = true := by
    unfold offIn offHi
    rw [timeB_iff.2 (by omega), timeB_iff.2 (by omega)]; rfl
  unfold offS
  rw [if_pos hp, if_pos ho, if_pos hi, if_pos (by unfold offHi; omega)]
  exact ⟨rfl, rfl, rfl⟩
theorem tells2 {p at_ : Int} {k : Kn} {s : NSt} (hN : s.N = 2) (hid : s.id = 0) (hp : s.p = p) (h0 : s.f 0 = none) (h1 : s.f 1 = some k) (hb : s.backB at_ = false) (hr : rightB (ageL k p at_) (ageH k p at_) = true) :
    tellC s at_ = 0 ∧ tellS s at_ = [⟨0, 0⟩, ⟨ageL k p at_, ageH k p at_⟩] ∧ tellB s at_ = [true, true] := by
  have f0 : s.f ((0 : Nat) : Int) = none := h0
  have f1 : s.f ((1 : Nat) : Int) = some k := h1
  have hc : tellC s at_ = 0 := tell_ok hb (by
    intro i hi
    rw [hN] at hi
    have : i = 0 ∨ i = 1 := by omega
    unfold farAt
    rcases this with rfl | rfl
    · rw [f0]
    · rw [f1, hp]; show (!rightB (ageL k p at_) (ageH k p at_)) = false; rw [hr]; rfl)
  refine ⟨hc, ?_, ?_⟩
  · unfold tellS
    rw [if_pos hc, hN]
    show [spanAt s at_ 0, spanAt s at_ 1] = _
    unfold spanAt
    rw [f0, f1, hp]
  · unfold tellB
    rw [if_pos hc, hN]
    show [hasAt s 0, hasAt s 1] = _
    unfold hasAt
    rw [f0, f1, hid]
    rfl
theorem plain {p a b c : Int} (p0 : 0 ≤ p) (p1 : p ≤ 1000) (a0 : 0 ≤ a) (a1 : a ≤ 1000000) (b0 : 0 ≤ b) (b1 : b ≤ 1000000) (c0 : 0 ≤ c) (c1 : c ≤ 1000000) : ∃ s1 s2 c2 b2 l1 h1 l2 h2, Plain p a b c s1 s2 c2 b2 l1 h1 l2 h2 := by
  obtain ⟨o1, o2, o3⟩ := off_ok (t1 := 0) (t2 := 5) (t3 := 5) (t4 := 10) (p := p) (by omega) (by omega) (by omega) (by omega) (by omega) (by omega) p0 p1 (by omega) (by omega)
  have sl1 := slack_bd (n := 10 - 0) (p := p) (by omega) (by omega) p0 p1
  obtain ⟨q1, q2, q3⟩ := off_ok (t1 := 10 + a) (t2 := 10 + a + b) (t3 := 10 + a + b) (t4 := 10 + a + b + c) (p := p) (by omega) (by omega) (by omega) (by omega) (by omega) (by omega) p0 p1 (by omega) (by omega)
  have sl2 := slack_bd (n := 10 + a + b + c - (10 + a)) (p := p) (by omega) (by omega) p0 p1
  have sl3 := slack_bd (n := 10 + a + b + c - 10) (p := p) (by omega) (by omega) p0 p1
  have sl0 : slackD (10 + a + b + c - (10 + a + b + c)) p = 2 := by
    rw [Int.sub_self]; unfold slackD byP upD; simp
  have H1 : Hears (NSt.start 2 0 p) ⟨1, 0, true, 0, 5, 5⟩ 10 true 0 ((NSt.start 2 0 p).learn 1 10 (offS 0 5 5 10 p).lo (offS 0 5 5 10 p).hi) :=
    Hears.first (by unfold NSt.backB NSt.start; simp) rfl (by show (1 : Int) ≠ 0; omega) (by show (0 : Int) ≤ 1; omega) (by show (1 : Int) < 2; omega) rfl o1 rfl
  obtain ⟨s1, hs1⟩ : ∃ s, (NSt.start 2 0 p).learn 1 10 (offS 0 5 5 10 p).lo (offS 0 5 5 10 p).hi = s := ⟨_, rfl⟩
  have e0 : s1.f 0 = none := by rw [← hs1]; rfl
  have e1 : s1.f 1 = some ⟨(offS 0 5 5 10 p).lo, (offS 0 5 5 10 p).hi, 10⟩ := by rw [← hs1]; rfl
  have eh : s1.h = 10 := by rw [← hs1]; rfl
  have eN : s1.N = 2 := by rw [← hs1]; rfl
  have ei : s1.id = 0 := by rw [← hs1]; rfl
  have ep : s1.p = p := by rw [← hs1]; rfl
  rw [hs1] at H1
  have hok := H1.ok (NSt.start_ok (by omega) (by omega) (by omega) p0 p1)
  have hb : s1.backB (10 + a + b + c) = false := by unfold NSt.backB; rw [eh]; simp; omega
  obtain ⟨k, hk⟩ : ∃ k : Kn, (⟨(offS 0 5 5 10 p).lo, (offS 0 5 5 10 p).hi, 10⟩ : Kn) = k := ⟨_, rfl⟩
  have kl : k.lo = 5 - 10 := by rw [← hk]; exact o2
  have kh : k.hi = 5 - 0 + slackD (10 - 0) p := by rw [← hk]; exact o3
  have ka : k.at_ = 10 := by rw [← hk]
  rw [hk] at e1
  have al : ageL k p (10 + a + b + c) = 5 - 10 - slackD (10 + a + b + c - 10) p := by unfold ageL; rw [kl, ka]
  have ah : ageH k p (10 + a + b + c) = 5 - 0 + slackD (10 - 0) p + slackD (10 + a + b + c - 10) p := by unfold ageH; rw [kh, ka]
  obtain ⟨t1, t2, t3⟩ := tells2 eN ei ep e0 e1 hb (rightB_iff.2 (by omega))
  cases hm : commonB (ageL k p (10 + a + b + c)) (ageH k p (10 + a + b + c)) (offS (10 + a) (10 + a + b) (10 + a + b) (10 + a + b + c) p).lo (offS (10 + a) (10 + a + b) (10 + a + b) (10 + a + b + c) p).hi
  · have H2 : Hears s1 ⟨1, 0, true, 10 + a, 10 + a + b, 10 + a + b⟩ (10 + a + b + c) false 7 s1 :=
      Hears.clash k hb (by rw [ei]; rfl) (by rw [ei]; show (1 : Int) ≠ 0; omega) (by show (0 : Int) ≤ 1; omega) (by rw [eN]; show (1 : Int) < 2; omega) rfl (by rw [ep]; exact q1) e1 (by rw [ep]; exact hm)
    exact ⟨s1, s1, 7, false, _, _, 0, 0, H1, t1, t2, t3, H2, .inl rfl, by omega⟩
  · have H2 := Hears.more (s := s1) (L := ⟨1, 0, true, 10 + a, 10 + a + b, 10 + a + b⟩) (here := 10 + a + b + c) k hb (by rw [ei]; rfl) (by rw [ei]; show (1 : Int) ≠ 0; omega) (by show (0 : Int) ≤ 1; omega) (by rw [eN]; show (1 : Int) < 2; omega) rfl (by rw [ep]; exact q1) e1 (by rw [ep]; exact hm)
    obtain ⟨L, hL⟩ : ∃ v, max (ageL k s1.p (10 + a + b + c)) (offL ⟨1, 0, true, 10 + a, 10 + a + b, 10 + a + b⟩ (10 + a + b + c) s1.p).lo = v := ⟨_, rfl⟩
    obtain ⟨H, hH⟩ : ∃ v, min (ageH k s1.p (10 + a + b + c)) (offL ⟨1, 0, true, 10 + a, 10 + a + b, 10 + a + b⟩ (10 + a + b + c) s1.p).hi = v := ⟨_, rfl⟩
    have hLv : L = max (ageL k p (10 + a + b + c)) (10 + a + b - (10 + a + b + c)) := by rw [← hL, ep]; unfold offL; rw [q2]
    have hHv : H = min (ageH k p (10 + a + b + c)) (10 + a + b - (10 + a) + slackD (10 + a + b + c - (10 + a)) p) := by rw [← hH, ep]; unfold offL; rw [q3]
    have hLH : L ≤ H := by
      unfold commonB at hm
      rw [decide_eq_true_eq, q2, q3] at hm
      rw [hLv, hHv]; exact hm
    rw [hL, hH] at H2
    obtain ⟨s2, hs2⟩ : ∃ s, s1.learn 1 (10 + a + b + c) L H = s := ⟨_, rfl⟩
    have g0 : s2.f 0 = none := by rw [← hs2]; show (if (0 : Int) = 1 then some (⟨L, H, 10 + a + b + c⟩ : Kn) else s1.f 0) = none; rw [if_neg (by omega)]; exact e0
    have g1 : s2.f 1 = some ⟨L, H, 10 + a + b + c⟩ := by rw [← hs2]; show (if (1 : Int) = 1 then some (⟨L, H, 10 + a + b + c⟩ : Kn) else s1.f 1) = some ⟨L, H, 10 + a + b + c⟩; rw [if_pos rfl]
    have gh : s2.h = 10 + a + b + c := by rw [← hs2]; rfl
    have gN : s2.N = 2 := by rw [← hs2]; exact eN
    have gi : s2.id = 0 := by rw [← hs2]; exact ei
    have gp : s2.p = p := by rw [← hs2]; exact ep
    have hb2 : s2.backB (10 + a + b + c) = false := by unfold NSt.backB; rw [gh]; simp; omega
    have bl : ageL ⟨L, H, 10 + a + b + c⟩ p (10 + a + b + c) = L - 2 := by unfold ageL; rw [sl0]
    have bh : ageH ⟨L, H, 10 + a + b + c⟩ p (10 + a + b + c) = H + 2 := by unfold ageH; rw [sl0]
    obtain ⟨u1, u2, u3⟩ := tells2 gN gi gp g0 g1 hb2 (rightB_iff.2 (by rw [bl, bh]; omega))
    rw [bl, bh] at u2
    exact ⟨s1, s2, 0, true, _, _, _, _, H1, t1, t2, t3, by rw [← hs2]; exact H2, .inr ⟨rfl, rfl, u1, u2, u3, by omega⟩, by omega⟩
theorem bools2 {w : World} {B : Option Addr} {m d : Nat} {x y : Bool} (h : IsBools w B m d [x, y]) : m = 2 ∧ 2 ≤ d ∧ d ≤ maxLen ∧ ∃ b off, B = some ⟨b, off, none⟩ ∧ b < w.heap.size ∧ w.cell? ⟨b, off, none⟩ = some (.bool x) ∧ w.cell? ⟨b, off + 1, none⟩ = some (.bool y) := by
  obtain ⟨h1, h2, h3, h4, h5⟩ := h
  have hm : m = 2 := h1.symm
  obtain ⟨b, off, e, hb, hc⟩ := h5 (by omega)
  have c0 := hc 0 x rfl 0 _ rfl
  have c1 := hc 1 y rfl 0 _ rfl
  exact ⟨hm, by omega, h3, b, off, e, hb, by simpa using c0, by simpa using c1⟩
theorem spans2 {w : World} {B : Option Addr} {m d : Nat} {x y : RSpan} (h : IsRecs w RSpan.cells RSpan.ok 2 B m d [x, y]) : m = 2 ∧ 2 ≤ d ∧ d ≤ maxLen ∧ ∃ b off, B = some ⟨b, off, none⟩ ∧ b < w.heap.size ∧ w.cell? ⟨b, off + 2, none⟩ = some (.int .i64 y.lo) ∧ w.cell? ⟨b, off + 2 + 1, none⟩ = some (.int .i64 y.hi) := by
  obtain ⟨h1, h2, h3, h4, h5⟩ := h
  have hm : m = 2 := h1.symm
  obtain ⟨b, off, e, hb, hc⟩ := h5 (by omega)
  have c0 := hc 1 y rfl 0 _ rfl
  have c1 := hc 1 y rfl 1 _ rfl
  exact ⟨hm, by omega, h3, b, off, e, hb, by simpa using c0, by simpa using c1⟩
set_option maxRecDepth 100000 in
set_option maxHeartbeats 16000000 in
theorem good (p a b c : Int) (w : World) (hg : HandleAt w) (p0 : 0 ≤ p) (p1 : p ≤ 1000) (a0 : 0 ≤ a) (a1 : a ≤ 1000000) (b0 : 0 ≤ b) (b1 : b ≤ 1000000) (c0 : 0 ≤ c) (c1 : c ≤ 1000000) :
    Calls Tryd.prog 3 #[.int .i64 p, .int .i64 a, .int .i64 b, .int .i64 c] w fun e w' => e = .returned (.bool true) ∧ Below w.heap.size w w' := by
  obtain ⟨s1, s2, c2, b2, l1, h1, l2, h2, hP⟩ := plain p0 p1 a0 a1 b0 b1 c0 c1
  have HPl := Lib.hid hP
  obtain ⟨x1, x2, x3, x4, x5, x6, x7, x8⟩ := hP.bd
  have CN := Lib.hid (fun w => node_New 2 0 p w (by omega) (by omega) (by omega) p0 p1)
  have CE := Lib.hid (fun w' (hb : Below w.heap.size w w') => show Calls Tryd.prog 8 #[.iface 62 (.int .i64 7), .int .i64 7] w' fun e w'' => e = .returned (.bool true) ∧ Below w'.heap.size w' w'' by have := Error_any 7 7 w' (hg.below hb); rw [errV_ne (by decide)] at this; simpa using this)
  have u1 := IntWalk.i64_in (10 + a) (by omega)
  have u2 := IntWalk.i64_in (10 + a + b) (by omega)
  have u3 := IntWalk.i64_in (10 + a + b + c) (by omega)
  have u4 := IntWalk.i64_in (h2 - l2) (by omega)
  have u5 := IntWalk.i64_in (h1 - l1) (by omega)
  have u6 := IntWalk.i64_in (h1 - l1 + 4) (by omega)
  clear hP hg
  go_enter Tryd.func3, Tryd.ntmps3
  go_wp2_with fail
  refine (CN.out w).mono ?_
  rintro e w1 ⟨g, mb, rfl, hg1, hg2, hN1, hb1⟩
  have HN1 := Lib.hid hN1
  have HB1 := Lib.hid hb1
  clear hN1 hb1 CN
  go_wp2_with fail
  refine (node_Hear g mb 0 _ _ ⟨1, 0, true, 0, 5, 5⟩ 10 _ _ w1 HN1.out (by omega) HPl.out.H1).mono ?_
  rintro e w2 ⟨rfl, hN2, hK2⟩
  have hB2 : Below w.heap.size w w2 := HB1.out.trans (hK2.toBelow HB1.out.size (fun k e => by rcases e with rfl | rfl <;> assumption))
  have HN2 := Lib.hid hN2
  have HB2 := Lib.hid hB2
  clear hN2 hK2 hB2 HN1 HB1
  go_wp2_with fail
  refine (node_Spans g mb 1 s1 (10 + a + b + c) w2 HN2.out).mono ?_
  rintro e w3 ⟨A, n, k, B, m, d, rfl, hS, hH, hb3, hA, _⟩
  have HB3 := Lib.hid (HB2.out.trans (hb3.mono HB2.out.size))
  have HN3 := Lib.hid (HN2.out.below hb3)
  rw [HPl.out.T1]
  rw [HPl.out.S1] at hS
  rw [HPl.out.B1] at hH
  obtain ⟨rfl, k2, k3, bs, os, rfl, hbs, y0, y1⟩ := spans2 hS
  obtain ⟨rfl, d2, d3, bh, oh, rfl, hbh, z0, z1⟩ := bools2 hH
  have hz2 := HN2.out.blk.lt
  have hz2m := HN2.out.mp.lt
  have hbs2 : w2.heap.size ≤ bs := hA _ rfl
  clear hA
  simp only [] at y0 y1
  unfold maxLen at k3 d3
  have hz3 := HB3.out.size
  clear hS hH hb3 HN2 HB2
  go_wp2_with fail
  refine (node_Hear g mb 1 _ _ ⟨1, 0, true, 10 + a, 10 + a + b, 10 + a + b⟩ (10 + a + b + c) _ _ w3 HN3.out (by omega) HPl.out.H2).mono ?_
  rintro e w4 ⟨rfl, hN4, hK4⟩
  have hB4 : Below w.heap.size w w4 := HB3.out.trans (hK4.toBelow HB3.out.size (fun k e => by rcases e with rfl | rfl <;> assumption))
  have hbs4 : bs < w4.heap.size := Nat.lt_of_lt_of_le hbs hK4.size
  have v0 : w4.cell? ⟨bs, os + 2, none⟩ = some (.int .i64 l1) := (World.cell?_of_block (hK4.block bs hbs (fun e => by rcases e with e | e <;> omega))).trans y0
  have v1 : w4.cell? ⟨bs, os + 2 + 1, none⟩ = some (.int .i64 h1) := (World.cell?_of_block (hK4.block bs hbs (fun e => by rcases e with e | e <;> omega))).trans y1
  have HN4 := Lib.hid hN4
  have HB4 := Lib.hid hB4
  clear hN4 hK4 hB4 HN3 HB3 y0 y1 z0 z1
  rcases HPl.out.C2 with rfl | ⟨rfl, rfl, t1, t2, t3, t4⟩
  · rw [errV_ne (by decide)]
    go_wp2_with fail
    refine (CE.out w4 HB4.out).mono ?_
    rintro e w5 ⟨rfl, hb5⟩
    have HB5 := Lib.hid (HB4.out.trans (hb5.mono HB4.out.size))
    clear hb5
    go_wp2_with fail
    go_ret
    exact ⟨rfl, HB5.out⟩
  · have HT1 := Lib.hid t1
    have HT2 := Lib.hid t2
    have HT3 := Lib.hid t3
    clear t1 t2 t3
    go_wp2_with fail
    refine (node_Spans g mb 2 s2 (10 + a + b + c) w4 HN4.out).mono ?_
    rintro e w5 ⟨A, n, k, B, m, d, rfl, hS, hH, hb5, _, _⟩
    have HB5 := Lib.hid (HB4.out.trans (hb5.mono HB4.out.size))
    rw [HT1.out]
    rw [HT2.out] at hS
    rw [HT3.out] at hH
    obtain ⟨rfl, k2, k3, bt, ot, rfl, hbt, y0, y1⟩ := spans2 hS
    obtain ⟨rfl, d2, d3, bh, oh, rfl, hbh, z0, z1⟩ := bools2 hH
    have r0 : w5.cell? ⟨bs, os + 2, none⟩ = some (.int .i64 l1) := (hb5.cell (p := ⟨bs, os + 2, none⟩) hbs4).trans v0
    have r1 : w5.cell? ⟨bs, os + 2 + 1, none⟩ = some (.int .i64 h1) := (hb5.cell (p := ⟨bs, os + 2 + 1, none⟩) hbs4).trans v1
    simp only [] at y0 y1
    unfold maxLen at k3 d3
    have q1 : decide (h2 - l2 ≤ h1 - l1 + 4) = true := decide_eq_true t4
    clear hS hH hb5 v0 v1 HT1 HT2 HT3 HN4 HB4
    go_wp2_with fail
    go_quiet (fail)
    go_wp2_with fail
    go_ret
    exact ⟨rfl, below_drewN HB5.out _⟩
set_option maxRecDepth 100000 in
set_option maxHeartbeats 8000000 in
theorem walk (a0 : Int) (a1 : Int) (a2 : Int) (a3 : Int) (w : World) (h0 : -9223372036854775808 ≤ a0 ∧ a0 ≤ 9223372036854775807) (h1 : -9223372036854775808 ≤ a1 ∧ a1 ≤ 9223372036854775807) (h2 : -9223372036854775808 ≤ a2 ∧ a2 ≤ 9223372036854775807) (h3 : -9223372036854775808 ≤ a3 ∧ a3 ≤ 9223372036854775807) (hg : HandleAt w) :
    Calls Tryd.prog 3 #[.int .i64 a0, .int .i64 a1, .int .i64 a2, .int .i64 a3] w fun e w' => e = .returned (.bool true) ∧ Below w.heap.size w w' := by
  by_cases hp : 0 ≤ a0 ∧ a0 ≤ 1000
  · by_cases hr : (0 ≤ a1 ∧ a1 ≤ 1000000) ∧ (0 ≤ a2 ∧ a2 ≤ 1000000) ∧ (0 ≤ a3 ∧ a3 ≤ 1000000)
    · exact good a0 a1 a2 a3 w hg hp.1 hp.2 hr.1.1 hr.1.2 hr.2.1.1 hr.2.1.2 hr.2.2.1 hr.2.2.2
    · have hd : a1 < 0 ∨ (¬ a1 < 0 ∧ 1000000 < a1) ∨ (¬ a1 < 0 ∧ ¬ 1000000 < a1 ∧ a2 < 0) ∨ (¬ a1 < 0 ∧ ¬ 1000000 < a1 ∧ ¬ a2 < 0 ∧ 1000000 < a2) ∨ (¬ a1 < 0 ∧ ¬ 1000000 < a1 ∧ ¬ a2 < 0 ∧ ¬ 1000000 < a2 ∧ a3 < 0) ∨ (¬ a1 < 0 ∧ ¬ 1000000 < a1 ∧ ¬ a2 < 0 ∧ ¬ 1000000 < a2 ∧ ¬ a3 < 0 ∧ 1000000 < a3) := by omega
      have CN := Lib.hid (fun w => node_New 2 0 a0 w (by omega) (by omega) (by omega) hp.1 hp.2)
      have hT : tellC (NSt.start 2 0 a0) 0 = 0 := tell_ok (by unfold NSt.backB NSt.start; simp) (fun i _ => rfl)
      have HT := Lib.hid hT
      have HT3 := Lib.hid (show tellB (NSt.start 2 0 a0) 0 = [true, false] by unfold tellB; rw [if_pos hT]; rfl)
      clear hr hp h0 h1 h2 h3 hg hT
      rcases hd with d1 | ⟨d1, d2⟩ | ⟨d1, d2, d3⟩ | ⟨d1, d2, d3, d4⟩ | ⟨d1, d2, d3, d4, d5⟩ | ⟨d1, d2, d3, d4, d5, d6⟩
      all_goals
        go_enter Tryd.func3, Tryd.ntmps3
        go_wp2_with fail
        refine (CN.out w).mono ?_
        rintro e w1 ⟨g, mb, rfl, hg1, hg2, hN1, hb1⟩
        have HN1 := Lib.hid hN1
        have HB1 := Lib.hid hb1
        clear hN1 hb1 CN
        go_wp2_with fail
        refine (node_Spans g mb 0 _ 0 w1 HN1.out).mono ?_
        rintro e w3 ⟨A, n, k, B, m, d, rfl, hS, hH, hb3, _, _⟩
        have HB3 := Lib.hid (HB1.out.trans (hb3.mono HB1.out.size))
        rw [HT.out]
        rw [HT3.out] at hH
        obtain ⟨rfl, d2', d3', bh, oh, rfl, hbh, z0, z1⟩ := bools2 hH
        unfold maxLen at d3'
        clear hS hH hb3 HN1 HB1
        go_wp2_with fail
        go_ret
        exact ⟨rfl, HB3.out⟩
  · have hd : a0 < 0 ∨ (¬ a0 < 0 ∧ 1000 < a0) := by omega
    have CN := Lib.hid (fun w => node_New_no 0 2 a0 w (.inr (.inr (.inr (by cases hh : rateB a0; rfl; rw [rateB_iff] at hh; omega)))))
    clear hp h0 h1 h2 h3 hg
    rcases hd with d1 | ⟨d1, d2⟩
    all_goals
      go_enter Tryd.func3, Tryd.ntmps3
      go_wp2_with fail
      refine (CN.out w).mono ?_
      rintro e w1 ⟨rfl, hb1⟩
      have HB1 := Lib.hid hb1
      clear hb1 CN
      go_wp2_with fail
      go_ret
      exact ⟨rfl, HB1.out⟩

set_option maxRecDepth 100000 in
theorem lifted (os : Os) (started : os.Started) (H : Type) (enc : TypeId × Value → H) :
    ReturnsInHanded {} Tryd.checked os 3 .any (fun w args => (Rows.nodeLearnsSpec.pre enc Tryd.prog Tryd.f3 [] false w args ∧ laidMetH Tryd.prog laidList w) ∧ sizedMet enc Tryd.prog Tryd.f3 (OpenSpec.ofChange Rows.nodeLearnsSpec) false w args)
      (Rows.nodeLearnsSpec.post enc Tryd.prog Tryd.f3 false true false false) := by
  refine returnsInHanded_of_change_and (C := Tryd.checked) (X := fun w _ => laidMetH Tryd.prog laidList w) (fun _ _ _ hh h => h.of_heap hh) own started (by kernel_rfl) Tryd.func3
    (ChangeSpec.witness_at (enc := enc) (C := Tryd.checked) (os := os) (X := fun w _ => laidMetH Tryd.prog laidList w) false (laidWorld os) #[.int .i64 0, .int .i64 0, .int .i64 0, .int .i64 0] 8 rfl (by kernel_rfl) (by kernel_rfl) (by kernel_rfl) (by kernel_rfl) (by kernel_rfl) (laidWorld_met os _)) ?_
  intro W base args ds gs before hval0 hW hcnd hreach hL _
  have hval : ∀ (j : Nat) t v, Tryd.f3.params[j]? = some t → args[j]? = some v → Value.okWide Tryd.prog W .any base t v := hval0
  have hW' := hW
  obtain ⟨p, q, hA0, hV, rfl, hfz, hnd⟩ := hW
  have hA : DataW.TrodAll enc Tryd.prog W 0 (fun _ => true) true Tryd.f3.params.toList args.toList ds p := hA0
  rw [Tryd.params3] at hA hval
  obtain ⟨v0, vs0, d0, ds0, p0, q0, hargs, rfl, rfl, g0, r0⟩ := trodAll_cons hA
  obtain ⟨v1, vs1, d1, ds1, p1, q1, rfl, rfl, rfl, g1, r1⟩ := trodAll_cons r0
  obtain ⟨v2, vs2, d2, ds2, p2, q2, rfl, rfl, rfl, g2, r2⟩ := trodAll_cons r1
  obtain ⟨v3, vs3, d3, ds3, p3, q3, rfl, rfl, rfl, g3, r3⟩ := trodAll_cons r2
  obtain ⟨rfl, rfl, rfl⟩ := trodAll_nil r3
  obtain rfl : args = #[v0, v1, v2, v3] := by cases args; simp_all
  have hV2 : DataW.TrodVars enc Tryd.prog W (fun _ => true) [] gs q := hV
  obtain ⟨rfl, rfl⟩ : gs = [] ∧ q = [] := by
    cases gs with
    | nil => exact ⟨rfl, hV2⟩
    | cons g r => exact absurd hV2 (by intro h; cases h)
  obtain ⟨a0, rfl, rfl, rfl, u0⟩ := open_int Tryd.underlying3 (hval 0 3 v0 rfl rfl) g0
  have h0 := bounds_i64 u0
  obtain ⟨a1, rfl, rfl, rfl, u1⟩ := open_int Tryd.underlying3 (hval 1 3 v1 rfl rfl) g1
  have h1 := bounds_i64 u1
  obtain ⟨a2, rfl, rfl, rfl, u2⟩ := open_int Tryd.underlying3 (hval 2 3 v2 rfl rfl) g2
  have h2 := bounds_i64 u2
  obtain ⟨a3, rfl, rfl, rfl, u3⟩ := open_int Tryd.underlying3 (hval 3 3 v3 rfl rfl) g3
  have h3 := bounds_i64 u3
  clear hA0 hval0
  refine (walk a0 a1 a2 a3 W h0 h1 h2 h3 (handle_of_laid hL)).mono fun e W' ⟨he, bel⟩ => ?_
  subst he
  exact ⟨_, rfl, _, _, _, [], _, [], hW', trodAll_mk1 (shut_bool Tryd.underlying4 _), (trodAll_cons_mk (shut_int Tryd.underlying3 u0) (trodAll_cons_mk (shut_int Tryd.underlying3 u1) (trodAll_cons_mk (shut_int Tryd.underlying3 u2) (trodAll_cons_mk (shut_int Tryd.underlying3 u3) trodAll_mk0)))), rfl, bel.frame _, fun h => by cases h⟩

theorem over : Rows.nodeLearnsRow.holds Tryd.pinned (OpenSpec.ofChange Rows.nodeLearnsSpec) :=
  OpenClaim.holds_of_wide 3 Tryd.f3 rfl rfl rfl rfl rfl rfl rfl ⟨rfl, rfl, rfl, rfl, rfl⟩ rfl rfl rfl rfl rfl (by kernel_rfl) Tryd.func3 (by kernel_rfl)
    (of_decide_eq_true (by kernel_rfl)) (by unfold Func.isWrapper; rw [if_neg (of_decide_eq_false (by kernel_rfl))]; exact ⟨rfl, rfl⟩)
    (fun os started H enc _ => lifted os started H enc)

theorem card : Rows.NodeLearnsCardSaid :=
  Claim7.holds_tied_plain_at .later [] [.handle] true (true, Rows.nodeLearnsCard.stood.harness.2) true
    over (fun _ h => by cases h) (by kernel_rfl) (fun _ h => by cases h) nodeLearns_row_tie rfl ⟨rfl, rfl⟩ (by kernel_rfl) rfl
    (fun f fn hf hfn => by
      obtain rfl : f = 3 := Option.some.inj ((show Tryd.prog.funcNamed "noonmark/noonlaw4.NodeLearns" = some 3 by kernel_rfl).symm.trans hf) |>.symm
      obtain rfl : fn = Tryd.f3 := (Option.some.inj (Tryd.func3.symm.trans hfn)).symm
      exact ⟨by kernel_rfl, fun j t ht => by
        rw [Tryd.params3] at ht
        exact noStandIn (ps := #[3, 3, 3, 3]) (by kernel_rfl) ht⟩)
    (by kernel_rfl)

end Go.Proofs.YtlkekkpknmbobaaDoor.lNodeLearns
