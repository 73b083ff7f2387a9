/- order.Ranks and its closure that calls itself and keeps what it knows, walked. -/
import Derived.Test.YthclepohilekaaaOrdG
import Derived.Test.YthclepohilekaaaMapI
namespace Go.Proofs.Ythclepohilekaaa
open Go.RowKit Go.Maps
set_option linter.unusedVariables false
set_option linter.unusedSimpArgs false
/-- how often it is written at most. -/
def pw : Nat → Nat
  | 0 => 0
  | f + 1 => 12 * pw f + 1
/-- what is known is right. -/
def KnowP (zs : List REvent) (n : Nat) (f : Int → Option Value) : Prop := ∀ x v, f x = some v → ∃ i : Nat, i < n ∧ x = (i : Int) ∧ v = .int .i64 (rankV zs i)
theorem KnowP.put {zs : List REvent} {n i : Nat} {f : Int → Option Value} (h : KnowP zs n f) (hi : i < n) : KnowP zs n (fun y => if y = (i : Int) then some (.int .i64 (rankV zs i)) else f y) := by
  intro x v hx
  have hx : (if x = (i : Int) then some (.int .i64 (rankV zs i)) else f x) = some v := hx
  by_cases c : x = (i : Int)
  · rw [if_pos c] at hx
    exact ⟨i, hi, c, (Option.some.inj hx).symm⟩
  · rw [if_neg c] at hx
    exact h x v hx
structure RkJ (A : Option Addr) (n c : Nat) (zs : List REvent) (gk gl gr mb : Nat) (N : Nat) (W : World) : Prop where
  kn : Blk W gk 41 #[.map (some mb)]
  ls : Blk W gl 22 #[.slice A n c]
  rf : Blk W gr 42 #[.func (.func 10) #[] #[.pointer (some ⟨gk, 0, none⟩), .pointer (some ⟨gl, 0, none⟩), .pointer (some ⟨gr, 0, none⟩)]]
  mp : ∃ f, MapF 3 W mb N f ∧ KnowP zs n f
  ev : IsRecs W REvent.cells REvent.ok 3 A n c zs
  ne : gk ≠ mb ∧ gl ≠ mb ∧ gr ≠ mb
  eb : ∀ b off, A = some ⟨b, off, none⟩ → b ≠ mb
theorem isRecs_touched {E : Type} {w w' : World} {cells : E → List Value} {ok : E → Prop} {k : Nat} {A : Option Addr} {n c g : Nat} {zs : List E} (h : IsRecs w cells ok k A n c zs) (ht : Touched g w w') (hne : ∀ b off, A = some ⟨b, off, none⟩ → b ≠ g) : IsRecs w' cells ok k A n c zs := by
  obtain ⟨h1, h2, h3, h4, h5⟩ := h
  refine ⟨h1, h2, h3, h4, fun h0 => ?_⟩
  obtain ⟨b, off, e, hb, hc⟩ := h5 h0
  exact ⟨b, off, e, Nat.lt_of_lt_of_le hb ht.size, fun i z hz j u hu => (ht.cell hb (hne b off e) _).trans (hc i z hz j u hu)⟩
theorem Blk.touched {w w' : World} {g m : Nat} {t : TypeId} {cs : Array Value} (h : Blk w g t cs) (ht : Touched m w w') (hne : g ≠ m) : Blk w' g t cs := h.grown ht (fun e => hne (by injection e))
theorem RkJ.touched {A : Option Addr} {n c : Nat} {zs : List REvent} {gk gl gr mb N M : Nat} {W W' : World} (h : RkJ A n c zs gk gl gr mb N W) (ht : Touched mb W W') (hm : ∃ f, MapF 3 W' mb M f ∧ KnowP zs n f) : RkJ A n c zs gk gl gr mb M W' :=
  ⟨h.kn.touched ht h.ne.1, h.ls.touched ht h.ne.2.1, h.rf.touched ht h.ne.2.2, hm, isRecs_touched h.ev ht h.eb, h.ne, h.eb⟩
theorem RkJ.below {A : Option Addr} {n c : Nat} {zs : List REvent} {gk gl gr mb N : Nat} {W W' : World} (h : RkJ A n c zs gk gl gr mb N W) (hb : Below W.heap.size W W') : RkJ A n c zs gk gl gr mb N W' := by
  obtain ⟨f, hf, hk⟩ := h.mp
  exact h.touched (Touched.of_below hb) ⟨f, hf.below hb hf.lt, hk⟩
set_option maxRecDepth 100000 in
set_option maxHeartbeats 16000000 in
theorem order_rank (A : Option Addr) (n c : Nat) (zs : List REvent) (gk gl gr mb : Nat) (hr : ∀ z ∈ zs, evR z = true) (h12 : n ≤ 12) : ∀ (f i N : Nat) (W : World), RkJ A n c zs gk gl gr mb N W → mu zs i < f → i < n → N + pw f ≤ 4611686018427387904 →
    Calls Try.prog 10 #[.int .i64 i, .pointer (some ⟨gk, 0, none⟩), .pointer (some ⟨gl, 0, none⟩), .pointer (some ⟨gr, 0, none⟩)] W fun e W' => e = .returned (.int .i64 (rankV zs i)) ∧ RkJ A n c zs gk gl gr mb (N + pw f) W' ∧ Touched mb W W'
  | 0, i, N, W, _, h, _, _ => absurd h (by omega)
  | f + 1, i, N, W, hJ, hmu, hi, hN => by
    have hl := hJ.ev.1
    have IH := Lib.hid (fun k M W' (hJ' : RkJ A n c zs gk gl gr mb M W') (hk : k < n) (hlt : (zs.getD k default).hi < (zs.getD i default).lo) (hM : M + pw f ≤ 4611686018427387904) => order_rank A n c zs gk gl gr mb hr h12 f k M W' hJ' (by have := mu_lt hr (by rw [hl]; exact hk) hlt; omega) hk hM)
    obtain ⟨F, hF, hK⟩ := hJ.mp
    have hwf : (Lit.int .i64 (i : Int)).wf = true := wf_i64 (by omega)
    have hz : (zeroValue 3).run Try.prog W = .ok (.int .i64 0) W := by kernel_rfl
    have hlook := hF.look (t := 41) (e := 3) Try.underlying3 Try.underlying41 hz hwf
    have x0 : W.cell? ⟨gk, 0, none⟩ = some (.map (some mb)) := hJ.kn.cell 0
    have x1 : W.cell? ⟨gl, 0, none⟩ = some (.slice A n c) := hJ.ls.cell 0
    have l2 := hJ.ev.2.1
    have l3 := hJ.ev.2.2.1
    unfold maxLen at l3
    cases hv : F (i : Int) with
    | some v =>
      obtain ⟨i', _, e1, rfl⟩ := hK _ _ hv
      obtain rfl : i = i' := by omega
      rw [hv] at hlook
      simp only [Option.getD_some, Option.isSome_some] at hlook
      have HF := Lib.hid (show RkJ A n c zs gk gl gr mb (N + pw (f + 1)) W from hJ.touched (Touched.refl _ _) ⟨F, hF.mono (by omega), hK⟩)
      clear hF hK hv hJ IH e1 hwf hz hmu hN hl
      as_aux_lemma =>
        go_enter Try.func10, Try.ntmps10
        go_wp2_with fail
        go_ret
        exact ⟨rfl, HF.out, Touched.refl _ _⟩
    | none =>
      rw [hv] at hlook
      simp only [Option.getD_none, Option.isSome_none] at hlook
      have HJ := Lib.hid hJ
      have HRk := Lib.hid (show rankV zs i = bestOf zs (rankV zs) (zs.getD i default).lo n + 1 from by rw [rankV_eq hr i, hl])
      have HLe := Lib.hid (fun k => rankV_le (zs := zs) (by rw [hl]; exact h12) k)
      have HBL := Lib.hid (fun k => best_le (zs := zs) (g := rankV zs) (lo := (zs.getD i default).lo) (B := 13) (by omega) k (fun j _ => (rankV_le (zs := zs) (by rw [hl]; exact h12) j).2))
      have hpw : pw (f + 1) = 12 * pw f + 1 := rfl
      obtain ⟨P, hP⟩ : ∃ P, pw f = P := ⟨_, rfl⟩
      rw [hpw] at hN ⊢
      rw [hP] at IH hN ⊢
      have HNP := Lib.hid (fun (k : Nat) (hk : k ≤ n) => show N + k * P ≤ N + 12 * P ∧ (k < n → N + k * P + P ≤ 4611686018427387904) from by
        have h1 : k * P ≤ 12 * P := Nat.mul_le_mul_right P (by omega)
        refine ⟨by omega, fun h => ?_⟩
        have h2 : (k + 1) * P ≤ 12 * P := Nat.mul_le_mul_right P (by omega)
        rw [Nat.succ_mul] at h2
        omega)
      clear hF hK hv hJ hz hmu hl hpw hP
      go_enter Try.func10, Try.ntmps10
      go_wp2_with fail
      go_loopw [8, 20] (fun bv kv wr => ∃ k : Nat, kv = .int .i64 k ∧ bv = .int .i64 (bestOf zs (rankV zs) (zs.getD i default).lo k + 1) ∧ k ≤ n ∧ RkJ A n c zs gk gl gr mb (N + k * P) wr ∧ Touched mb W wr) (fun _ kv _ => n - (intOf kv).toNat)
      case atStart => exact ⟨0, rfl, rfl, by omega, by simpa using HJ.out, Touched.refl _ _⟩
      case round =>
        obtain ⟨k, rfl, rfl, hk, hJ, hT⟩ := hrel
        have HJk := Lib.hid hJ
        have HT := Lib.hid hT
        have hbl := HBL.out k
        have x0 : wr.cell? ⟨gk, 0, none⟩ = some (.map (some mb)) := hJ.kn.cell 0
        have x1 : wr.cell? ⟨gl, 0, none⟩ = some (.slice A n c) := hJ.ls.cell 0
        have x2 : wr.cell? ⟨gr, 0, none⟩ = some (.func (.func 10) #[] #[.pointer (some ⟨gk, 0, none⟩), .pointer (some ⟨gl, 0, none⟩), .pointer (some ⟨gr, 0, none⟩)]) := hJ.rf.cell 0
        obtain ⟨B, hBe⟩ : ∃ B, bestOf zs (rankV zs) (zs.getD i default).lo k = B := ⟨_, rfl⟩
        rw [hBe] at hbl ⊢
        have HBe := Lib.hid hBe
        have hw1 := IntWalk.i64_in (B + 1) (by omega)
        have hnp := HNP.out k hk
        clear hT hBe hlook
        by_cases d1 : k < n
        · obtain ⟨b, off, rfl, hb, hc⟩ := evsAt hJ.ev (by omega)
          have HS := Lib.hid (show bestOf zs (rankV zs) (zs.getD i default).lo (k + 1) = if (zs.getD k default).hi < (zs.getD i default).lo then max B (rankV zs k) else B from by rw [← HBe.out]; rfl)
          have HC := Lib.hid hc
          have hle := HLe.out k
          obtain ⟨zk, hzk⟩ : ∃ z, zs.getD k default = z := ⟨_, rfl⟩
          obtain ⟨zi, hzi⟩ : ∃ z, zs.getD i default = z := ⟨_, rfl⟩
          obtain ⟨R, hR⟩ : ∃ R, rankV zs k = R := ⟨_, rfl⟩
          have IHk := Lib.hid (IH.out k)
          have CA := Lib.hid (fun W' => order_ahead zk.id zk.lo zk.hi zi.id zi.lo zi.hi W')
          have HC2 := Lib.hid (fun w' (hB : Below wr.heap.size wr w') => show w'.cell? ⟨b, off + k * 3, none⟩ = some (.int .i64 zk.id) ∧ w'.cell? ⟨b, off + k * 3 + 1, none⟩ = some (.int .i64 zk.lo) ∧ w'.cell? ⟨b, off + k * 3 + 2, none⟩ = some (.int .i64 zk.hi) ∧ w'.cell? ⟨b, off + i * 3, none⟩ = some (.int .i64 zi.id) ∧ w'.cell? ⟨b, off + i * 3 + 1, none⟩ = some (.int .i64 zi.lo) ∧ w'.cell? ⟨b, off + i * 3 + 2, none⟩ = some (.int .i64 zi.hi) from by
            obtain ⟨a0, a1, a2⟩ := hc w' hB k d1
            obtain ⟨b0, b1, b2⟩ := hc w' hB i hi
            rw [hzk] at a0 a1 a2
            rw [hzi] at b0 b1 b2
            exact ⟨a0, a1, a2, b0, b1, b2⟩)
          rw [hzk, hzi, hR] at HS IHk
          rw [hR] at hle
          rw [hzi] at HBe ⊢
          obtain ⟨y0, y1, y2, z0, z1, z2⟩ := HC2.out wr (Below.refl _ _)
          have hw2 := IntWalk.i64_in (R + 1) (by omega)
          have q0 : (0 : Int) ≤ (k : Int) := by omega
          have q1 : (k : Int) < (n : Int) := by omega
          have q2 : (0 : Int) ≤ (i : Int) := by omega
          have q3 : (i : Int) < (n : Int) := by omega
          have HQ := Lib.hid (And.intro (hnp.2 d1) (show N + k * P ≤ N + (k + 1) * P from by rw [Nat.succ_mul]; omega))
          have lgl := hJ.ls.lt
          have lgr := hJ.rf.lt
          have lgk := hJ.kn.lt
          clear hc hzk hzi hR IH HLe HBL HJ HRk hJ HC HBe HNP hbl
          go_wp2_with fail
          go_region_held3 (fun w' => w'.cell? ⟨gl, 0, none⟩ = some (.slice (some ⟨b, off, none⟩) n c) ∧ w'.cell? ⟨b, off + k * 3, none⟩ = some (.int .i64 zk.id) ∧ w'.cell? ⟨b, off + k * 3 + 1, none⟩ = some (.int .i64 zk.lo) ∧ w'.cell? ⟨b, off + k * 3 + 2, none⟩ = some (.int .i64 zk.hi) ∧ w'.cell? ⟨b, off + i * 3, none⟩ = some (.int .i64 zi.id) ∧ w'.cell? ⟨b, off + i * 3 + 1, none⟩ = some (.int .i64 zi.lo) ∧ w'.cell? ⟨b, off + i * 3 + 2, none⟩ = some (.int .i64 zi.hi)) (first | go_keep | ((repeat' apply And.intro) <;> assumption)) (first | ((go_at_call 7; refine (CA.out _).mono ?_; rintro e w3 ⟨rfl, hb3⟩; have hB3 : Below wr.heap.size wr w3 := (by repeat (first | with_reducible exact Below.refl _ _ | (with_reducible refine Below.alloc ?_ (by first | omega | (simp; done) | (simp; omega)) _) | (with_reducible refine Below.setCell ?_ (by first | omega | (simp; done) | (simp; omega)) _) | (with_reducible refine Below.drew ?_) | (with_reducible refine below_drewN ?_ _) | (with_reducible assumption) | (with_reducible refine bel_step (by with_reducible assumption) ?_ (by first | omega | (simp; done) | (simp; omega))))); obtain ⟨a0, a1, a2, b0, b1, b2⟩ := HC2.out w3 hB3; have j3 := HJk.out.below hB3; have v0 : w3.cell? ⟨gk, 0, none⟩ = some (.map (some mb)) := j3.kn.cell 0; have v1 : w3.cell? ⟨gl, 0, none⟩ = some (.slice (some ⟨b, off, none⟩) n c) := j3.ls.cell 0; have v2 : w3.cell? ⟨gr, 0, none⟩ = some (.func (.func 10) #[] #[.pointer (some ⟨gk, 0, none⟩), .pointer (some ⟨gl, 0, none⟩), .pointer (some ⟨gr, 0, none⟩)]) := j3.rf.cell 0; have HJ3 := Lib.hid j3; clear j3)))
          all_goals
            have HT3 := Lib.hid (Touched.then hB3 HT.out)
            clear hB3 y0 y1 y2 z0 z1 z2 a0 a1 a2 b0 b1 b2
            by_cases ca : zk.hi < zi.lo
            · have HS2 := Lib.hid (show bestOf zs (rankV zs) zi.lo (k + 1) = max B R by rw [HS.out, if_pos ca])
              have ba : decide (zk.hi < zi.lo) = true := by simp; exact ca
              as_aux_lemma =>
                go_wp2_with fail
                refine (IHk.out _ _ HJ3.out d1 ca HQ.out.1).mono ?_
                rintro e w4 ⟨rfl, hJ4, hT4⟩
                have HJ4 := Lib.hid (show RkJ (some ⟨b, off, none⟩) n c zs gk gl gr mb (N + (k + 1) * P) w4 from by have h := hJ4; rw [show N + k * P + P = N + (k + 1) * P by rw [Nat.succ_mul]; omega] at h; exact h)
                have HT4 := Lib.hid (Touched.trans hT4 HT3.out)
                clear hJ4 hT4
                go_wp2_with fail
                go_roundw
                case rel => exact ⟨k + 1, by go_num, by rw [HS2.out]; (try (refine congrArg (Value.int .i64) ?_; split <;> omega)), by omega, HJ4.out, HT4.out⟩
                case measure => simp [intOf]; omega
            · have HS2 := Lib.hid (show bestOf zs (rankV zs) zi.lo (k + 1) = B by rw [HS.out, if_neg ca])
              have ba : decide (zk.hi < zi.lo) = false := by simp; omega
              have HJ4 := Lib.hid (show RkJ (some ⟨b, off, none⟩) n c zs gk gl gr mb (N + (k + 1) * P) w3 from by
                obtain ⟨F, hF, hK⟩ := HJ3.out.mp
                exact HJ3.out.touched (Touched.refl _ _) ⟨F, hF.mono HQ.out.2, hK⟩)
              as_aux_lemma =>
                go_wp2_with fail
                go_roundw
                case rel => exact ⟨k + 1, by go_num, by rw [HS2.out]; (try (refine congrArg (Value.int .i64) ?_; split <;> omega)), by omega, HJ4.out, HT3.out⟩
                case measure => simp [intOf]; omega
        · obtain rfl : k = n := by omega
          have HN1 := Lib.hid (show B + 1 = rankV zs i by rw [HRk.out, HBe.out])
          obtain ⟨F, hF, hK⟩ := hJ.mp
          have HF := Lib.hid hF
          have HK := Lib.hid hK
          clear hF hK hJ hbl hw1 HNP IH HLe HBL HRk HBe
          go_wp2_with (at_mapUpdate; refine wpList_put (k := 3) (e := 3) rfl _ _ _ rfl Try.underlying3 Try.underlying41 mb _ F rfl HF.out (by unfold maxLen; omega) (i : Int) (.int .i64 (B + 1)) rfl rfl hwf ?_; intro w5 hM5 hg5)
          have hM5 : ∃ F', MapF 3 w5 mb (N + (12 * P + 1)) F' ∧ KnowP zs k F' := ⟨_, hM5.mono (by omega), by rw [HN1.out]; exact HK.out.put hi⟩
          have HJ5 := Lib.hid (HJk.out.touched hg5 hM5)
          have HT5 := Lib.hid (Touched.trans hg5 HT.out)
          clear hM5 hg5
          go_wp2_with fail
          go_ret
          exact ⟨by rw [← HN1.out]; rfl, HJ5.out, HT5.out⟩
end Go.Proofs.Ythclepohilekaaa
