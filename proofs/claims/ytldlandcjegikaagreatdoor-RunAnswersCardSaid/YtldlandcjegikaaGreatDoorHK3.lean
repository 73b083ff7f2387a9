/- Texts that serve many laws, one behind the other. -/
import Derived.Test.YtldlandcjegikaaGreatDoorHAll
import Derived.Test.YtldlandcjegikaaGreatDoorHK2
import Derived.Test.YtldlandcjegikaaGreatDoorHWorldA
import Derived.Test.YtldlandcjegikaaGreatDoorHWorldB
import Derived.Test.YtldlandcjegikaaGreatDoorHWorldG
set_option linter.unusedVariables false
set_option linter.unusedSimpArgs false
namespace Go.Proofs.YtldlandcjegikaaGreatDoor

section
open Go.RowKit
def GotP (w w' : World) : Option RLetter → Value → Value → Prop
 | none, P, _ => P = .pointer none
 | some L, P, uv' => ∃ p, P = .pointer (some ⟨p, 0, none⟩) ∧ w.heap.size ≤ p ∧ Blk w' p 110 (RLetter.cells L).toArray ∧ uv'.ownBlock ≠ some p
def DoW (n : Nat) (ss rs : List Int) (t : Int) (us : List RLetter) (A : RAct) (c : Int) (got : Option RLetter) (t' : Int) (us' : List RLetter) : Prop :=
 ∀ (g B : Nat) (uv : Value) (w : World), WorldU w g B n ss rs t uv us →
  Calls Tryz.prog 93 #[.pointer (some ⟨g, 0, none⟩), .agg #[.int .i64 A.what, .int .i64 A.a, .int .i64 A.b]] w fun e w' => ∃ P uv', e = .returned (.tuple #[P, errV c]) ∧ GotP w w' got P uv' ∧ WorldU w' g B n ss rs t' uv' us' ∧ Kept (Mine g uv) w w' ∧ (∀ q, uv'.ownBlock = some q → uv.ownBlock = some q ∨ w.heap.size ≤ q)
def AnsW (n : Nat) (ss rs : List Int) (t : Int) (us : List RLetter) (L : RLetter) (c : Int) (us' : List RLetter) : Prop :=
 ∀ (g B : Nat) (uv : Value) (w : World), WorldU w g B n ss rs t uv us →
  Calls Tryz.prog 96 #[.pointer (some ⟨g, 0, none⟩), .agg #[.int .i64 L.src, .int .i64 L.dst, .bool L.answer, .int .i64 L.t1, .int .i64 L.t2, .int .i64 L.t]] w fun e w' => e = .returned (errV c) ∧ Sent w g B n ss rs t uv us' w'
theorem sent_below {w w' : World} {g B n : Nat} {ss rs : List Int} {t : Int} {uv : Value} {us : List RLetter} (h : WorldU w g B n ss rs t uv us) (hb : Below w.heap.size w w') : Sent w g B n ss rs t uv us w' :=
 ⟨uv, h.below hb, (Kept.refl _ w).below hb, fun _ e => .inl e⟩
theorem dow_below {n : Nat} {ss rs : List Int} {t : Int} {us : List RLetter} {A : RAct} {c : Int} (hc : c ≠ 0)
  (h : ∀ (g B : Nat) (uv : Value) (w : World), WorldU w g B n ss rs t uv us → Calls Tryz.prog 93 #[.pointer (some ⟨g, 0, none⟩), .agg #[.int .i64 A.what, .int .i64 A.a, .int .i64 A.b]] w fun e w' => e = .returned (.tuple #[.pointer none, .iface 88 (.int .i64 c)]) ∧ Below w.heap.size w w') : DoW n ss rs t us A c none t us := fun g B uv w hw => (h g B uv w hw).mono (by
 rintro e w' ⟨rfl, hb⟩
 exact ⟨_, uv, by rw [errV_ne hc], rfl, hw.below hb, (Kept.refl _ w).below hb, fun _ e => .inl e⟩)
theorem act_W {n : Nat} {ss rs : List Int} {t t' : Int} {us us' : List RLetter} {A : RAct} {c : Int} {got : Option RLetter} (h : WAct n ss rs t us A c got t' us') (hA : RAct.ok A) : DoW n ss rs t us A c got t' us' := by
 cases h with
 | gone a b h0 h1 h2 => exact fun g B uv w hw => (world_Do_gone g B n ss rs t uv us a b w hw h0 h1 h2).mono (by rintro e w' ⟨rfl, h1, hk⟩; exact ⟨_, uv, rfl, rfl, h1, hk, fun _ e => .inl e⟩)
 | stays a b h0 => exact dow_below (by decide) fun g B uv w hw => world_Do_stays g B n ss rs t uv us a b w hw hA.2.1 h0
 | askNo a b h0 => exact dow_below (by decide) fun g B uv w hw => world_Do_ask_no g B n ss rs t uv us a b w hw h0
 | askSame i hi => exact dow_below (by decide) fun g B uv w hw => world_Do_ask_same g B n ss rs t uv us i w hw (hasN_nat hi)
 | askFull i k hi hk hne hl => exact dow_below (by decide) fun g B uv w hw => world_Do_full g B n ss rs t uv us i k w hw hi hk hne hl
 | ask i k s r hs hr hk hne hl => exact fun g B uv w hw => (world_Do_ask g B n ss rs t uv us i k s r w hw hs hr hk hne hl).mono (by rintro e w' ⟨rfl, uv', h1, h2, h3⟩; exact ⟨_, uv', rfl, rfl, h1, h2, h3⟩)
 | none_ k a b hk ha => exact dow_below (by decide) fun g B uv w hw => world_Do_none g B n ss rs t uv us k a b w hw hk ha
 | deliver j L b hj => exact fun g B uv w hw => (world_Do_deliver g B n ss rs t uv us j L b w hw hj).mono (by
   rintro e w' ⟨p, rfl, hp, hb, uv', h1, h2, h3⟩
   exact ⟨_, uv', rfl, ⟨p, rfl, hp, hb, fun e => by have := (hw.low _ (h3 p e)).2; omega⟩, h1, h2, fun q e => .inl (h3 q e)⟩)
 | lose j L b hj => exact fun g B uv w hw => (world_Do_lose g B n ss rs t uv us j L b w hw hj).mono (by rintro e w' ⟨rfl, uv', h1, h2, h3⟩; exact ⟨_, uv', rfl, rfl, h1, h2, h3⟩)
 | again j L b hj => exact fun g B uv w hw => (world_Do_repeat g B n ss rs t uv us j L b w hw hj).mono (by
   rintro e w' ⟨p, rfl, hp, hb, h1⟩
   exact ⟨_, uv, rfl, ⟨p, rfl, hp, hb, fun e => by have := (hw.low _ e).2; omega⟩, hw.below h1, (Kept.refl _ w).below h1, fun q e => .inl e⟩)
 | other k a b h1 h2 h3 h4 h5 => exact dow_below (by decide) fun g B uv w hw => world_Do_other g k a b w h1 h2 h3 h4 h5
theorem ans_W {n : Nat} {ss rs : List Int} {t : Int} {us us' : List RLetter} {L : RLetter} {c : Int} (h : WAns n ss rs t us L c us') (hL : RLetter.ok L) : AnsW n ss rs t us L c us' := by
 cases h with
 | yes a b t1 t2 lt => exact fun g B uv w hw => (world_Answer_yes g a b t1 t2 lt w).mono (by rintro e w' ⟨rfl, hb⟩; exact ⟨rfl, sent_below hw hb⟩)
 | no a b t1 t2 lt h0 => exact fun g B uv w hw => (world_Answer_no g B n ss rs t uv us a b t1 t2 lt w hw h0).mono (by rintro e w' ⟨rfl, hb⟩; exact ⟨rfl, sent_below hw hb⟩)
 | full i k t1 t2 lt hi hk hl => exact fun g B uv w hw => (world_Answer_full g B n ss rs t uv us i k t1 t2 lt w hw (hasN_nat hi) (hasN_nat hk) hl).mono (by rintro e w' ⟨rfl, hb⟩; exact ⟨rfl, sent_below hw hb⟩)
 | ok i k s r t1 t2 lt hs hr hi hl => exact fun g B uv w hw => (world_Answer g B n ss rs t uv us i k s r t1 t2 lt w hw hs hr hi hl hL.2.2.2.2).mono (by rintro e w' ⟨rfl, h1⟩; exact ⟨rfl, h1⟩)
end


section
open Go.RowKit
def BetS (N : Int) (zs : List REdge) (a b : Int) (x : RSpan) (c : Int) : Prop :=
 (edgesC N zs ≠ 0 ∧ c = edgesC N zs ∧ x = ⟨0, 0⟩) ∨ (edgesC N zs = 0 ∧ (nodeB N a && nodeB N b) = false ∧ c = 1 ∧ x = ⟨0, 0⟩) ∨
 (edgesC N zs = 0 ∧ (nodeB N a && nodeB N b) = true ∧ ((Sunk (Arc zs) N.toNat ∧ c = 7 ∧ x = ⟨0, 0⟩) ∨ (¬ Sunk (Arc zs) N.toNat ∧ ∃ D : Nat → Nat → Int, Tells (Arc zs) N.toNat D (fun a b => decide (D a b < farI)) ∧
  (((∃ i j, i < N.toNat ∧ j < N.toNat ∧ ¬ timeD D i j) ∧ c = 1 ∧ x = ⟨0, 0⟩) ∨ ((∀ i j, i < N.toNat → j < N.toNat → timeD D i j) ∧
   ((¬ D a.toNat b.toNat < farI ∧ c = 5 ∧ x = ⟨0, 0⟩) ∨ (D a.toNat b.toNat < farI ∧ c = 0 ∧ x = ⟨-(D b.toNat a.toNat), D a.toNat b.toNat⟩)))))))
def BetP (N : Int) (zs : List REdge) (a b : Int) (w w' : World) (e : Ending) : Prop :=
 ∃ (x : RSpan) (c : Int), e = .returned (.tuple #[.agg #[.int .i64 x.lo, .int .i64 x.hi], errV c]) ∧ BetS N zs a b x c ∧ Below w.heap.size w w'
set_option maxHeartbeats 4000000 in
theorem bounds_Between (N : Int) (A : Option Addr) (n c : Nat) (zs : List REdge) (a b : Int) (w : World) (hz : IsRecs w REdge.cells REdge.ok 4 A n c zs) :
  Calls Tryz.prog 99 #[.int .i64 N, .slice A n c, .int .i64 a, .int .i64 b] w fun e w' => BetP N zs a b w w' e := by
 have hm1 := hz.2.1
 have hm2 := hz.2.2.1
 unfold maxLen at hm2
 have C := Lib.hid (fun w' (hb : Below w.heap.size w w') => bounds_Check N A n c zs w' (hz.below hb))
 have HZ := Lib.hid hz
 clear hz
 by_cases c0 : edgesC N zs = 0
 ·rw [c0] at C
  have C0 := Lib.hid c0
  obtain ⟨c4, c5, c6, c7⟩ := edgesC_0 c0
  obtain ⟨N', rfl⟩ := Int.eq_ofNat_of_zero_le (show 0 ≤ N by omega)
  clear c6 c7
  cases hnd : (nodeB N' a && nodeB N' b)
  ·have HND := Lib.hid hnd
   have hnd2 : nodeB N' a = false ∨ nodeB N' a = true ∧ nodeB N' b = false := by
    cases h1 : nodeB N' a
    ·exact .inl rfl
    ·rw [h1] at hnd; exact .inr ⟨rfl, by simpa using hnd⟩
   clear hnd c0
   rcases hnd2 with h1 | ⟨h1, h2⟩
   all_goals
    go_enter Tryz.func99, Tryz.ntmps99
    go_wp2_with fail
    refine (C.out _ BeL).mono ?_
    rintro e w1 ⟨rfl, hb1⟩
    have hr0 : w1.cell? ⟨w.heap.size, 0, none⟩ = some (.int .i64 0) := (hb1.cell (p := ⟨w.heap.size, 0, none⟩) (by simp)).trans (by simp)
    have hr1 : w1.cell? ⟨w.heap.size, 1, none⟩ = some (.int .i64 0) := (hb1.cell (p := ⟨w.heap.size, 1, none⟩) (by simp)).trans (by simp)
    have hf0 := fun o => (hb1.frozen (p := ⟨w.heap.size, o, none⟩) (by simp)).trans (by simp : (w.alloc (.cells #[.int .i64 0, .int .i64 0] 34)).frozen? ⟨w.heap.size, o, none⟩ = false)
    have hlt := hb1.size
    simp at hlt
    have HB1 := Lib.hid hb1
    clear hb1
    go_wp2_with (go_at_call 57; refine (Node_any _ _ _).mono ?_; rintro e w' ⟨rfl, rfl⟩)
    refine bodyPost_ret (v := .tuple #[.agg #[.int .i64 0, .int .i64 0], .iface 88 (.int .i64 1)]) (by simp [results, Tryz.results99, go_sem, hr0, hr1, hf0]) rfl ?_
    exact ⟨⟨0, 0⟩, 1, rfl, .inr (.inl ⟨C0.out, HND.out, rfl, rfl⟩), by have := HB1.out; exact BeL⟩
  ·have HND := Lib.hid hnd
   have h1 : nodeB N' a = true := by cases h : nodeB N' a; (rw [h] at hnd; cases hnd); rfl
   have h2 : nodeB N' b = true := by rw [h1] at hnd; simpa using hnd
   have CA := Lib.hid (fun w' (hb : Below w.heap.size w w') => bounds_All_ok N' A n c zs w' (HZ.out.below hb) C0.out)
   obtain ⟨n1, n2⟩ := nodeB_iff.1 h1
   obtain ⟨n3, n4⟩ := nodeB_iff.1 h2
   clear hnd c0
   go_enter Tryz.func99, Tryz.ntmps99
   go_wp2_with fail
   refine (C.out _ BeL).mono ?_
   rintro e w1 ⟨rfl, hb1⟩
   have HB1 := Lib.hid hb1
   have hz1 := hb1.size
   simp at hz1
   clear hb1
   go_wp2_with (go_at_call 57; refine (Node_any _ _ _).mono ?_; rintro e w' ⟨rfl, rfl⟩)
   refine (CA.out _ (show Below w.heap.size w w1 by have := HB1.out; exact BeL)).mono ?_
   rintro e w2 ⟨B1, m1, d1, B2, m2, d2, k, rfl, hb2, hA⟩
   have hz2 := hb2.size
   have hbb : Below (w.alloc (.cells #[.int .i64 0, .int .i64 0] 34)).heap.size (w.alloc (.cells #[.int .i64 0, .int .i64 0] 34)) w2 := HB1.out.trans (hb2.mono (by simp; omega))
   have hr0 : w2.cell? ⟨w.heap.size, 0, none⟩ = some (.int .i64 0) := (hbb.cell (p := ⟨w.heap.size, 0, none⟩) (by simp)).trans (by simp)
   have hr1 : w2.cell? ⟨w.heap.size, 1, none⟩ = some (.int .i64 0) := (hbb.cell (p := ⟨w.heap.size, 1, none⟩) (by simp)).trans (by simp)
   have hf0 := fun o => (hbb.frozen (p := ⟨w.heap.size, o, none⟩) (by simp)).trans (by simp : (w.alloc (.cells #[.int .i64 0, .int .i64 0] 34)).frozen? ⟨w.heap.size, o, none⟩ = false)
   have hlt : w.heap.size < w2.heap.size := by omega
   have HB2 := Lib.hid (show Below w.heap.size w w2 by exact (show Below w.heap.size w (w.alloc (.cells #[.int .i64 0, .int .i64 0] 34)) from BeL).trans (hbb.mono (by simp)))
   clear hb2 hbb HB1
   rcases hA with ⟨s1, rfl⟩ | ⟨s1, D, s2, ⟨rfl, s3⟩ | ⟨rfl, s3, s4, s5⟩⟩
   ·have S1 := Lib.hid s1
    clear s1
    go_wp2_with fail
    refine bodyPost_ret (v := .tuple #[.agg #[.int .i64 0, .int .i64 0], .iface 88 (.int .i64 7)]) (by simp [results, Tryz.results99, go_sem, hr0, hr1, hf0]) rfl ?_
    exact ⟨⟨0, 0⟩, 7, rfl, .inr (.inr ⟨C0.out, HND.out, .inl ⟨S1.out, rfl, rfl⟩⟩), by have := HB2.out; exact BeL⟩
   ·have S1 := Lib.hid s1
    have S2 := Lib.hid s2
    have S3 := Lib.hid s3
    clear s1 s2 s3
    go_wp2_with fail
    refine bodyPost_ret (v := .tuple #[.agg #[.int .i64 0, .int .i64 0], .iface 88 (.int .i64 1)]) (by simp [results, Tryz.results99, go_sem, hr0, hr1, hf0]) rfl ?_
    exact ⟨⟨0, 0⟩, 1, rfl, .inr (.inr ⟨C0.out, HND.out, .inr ⟨S1.out, D, S2.out, .inl ⟨S3.out, rfl, rfl⟩⟩⟩), by have := HB2.out; exact BeL⟩
   ·have S1 := Lib.hid s1
    have S2 := Lib.hid s2
    have S3 := Lib.hid s3
    obtain ⟨a', rfl⟩ := Int.eq_ofNat_of_zero_le n1
    obtain ⟨b', rfl⟩ := Int.eq_ofNat_of_zero_le n3
    have la : a' < N' := by omega
    have lb : b' < N' := by omega
    obtain ⟨q1, r1, e1, rfl, em1, x1, x2, x3, x4, x5, x6⟩ := s4.at_ la lb
    obtain ⟨q2, r2, e2, rfl, em2, y1, y2, y3, y4, y5, y6⟩ := s5.at_ la lb
    subst em1 em2
    have hc1 := s4.2.1
    have hc2 := s4.2.2.1
    have hc3 := s5.2.1
    have hc4 := s5.2.2.1
    unfold maxLen at hc2 hc4 x3 y3
    by_cases hf : D a' b' < farI
    ·have z0 := x6 0 _ (by simp only [hf, if_true]; rfl)
     have z1 := x6 1 _ (by simp only [hf, if_true]; rfl)
     have z2 := y6 0 _ (by simp only [hf, decide_true]; rfl)
     have HF := Lib.hid hf
     obtain ⟨v1, hv1⟩ : ∃ v, D a' b' = v := ⟨_, rfl⟩
     obtain ⟨v2, hv2⟩ : ∃ v, -(D b' a') = v := ⟨_, rfl⟩
     simp only [RSpan.cells, Nat.add_zero, Nat.mul_one] at z0 z1 z2
     rw [hv2] at z0
     rw [hv1] at z1
     have HV1 := Lib.hid hv1
     have HV2 := Lib.hid hv2
     clear s1 s2 s3 s4 s5 x6 y6 hf hv1 hv2
     go_wp2_with fail
     refine bodyPost_ret (v := .tuple #[.agg #[.int .i64 v2, .int .i64 v1], .nilIface]) (by simp [results, Tryz.results99, go_sem, hr0, hr1, hf0]) rfl ?_
     exact ⟨⟨v2, v1⟩, 0, rfl, .inr (.inr ⟨C0.out, HND.out, .inr ⟨S1.out, D, S2.out, .inr ⟨S3.out, .inr ⟨HF.out, rfl, by simp [HV1.out, HV2.out]⟩⟩⟩⟩), by have := HB2.out; exact BeL⟩
    ·have z2 := y6 0 _ (by simp only [hf, decide_false]; rfl)
     have HF := Lib.hid hf
     simp only [Nat.add_zero, Nat.mul_one] at z2
     clear s1 s2 s3 s4 s5 x6 y6 hf
     go_wp2_with fail
     refine bodyPost_ret (v := .tuple #[.agg #[.int .i64 0, .int .i64 0], .iface 88 (.int .i64 5)]) (by simp [results, Tryz.results99, go_sem, hr0, hr1, hf0]) rfl ?_
     exact ⟨⟨0, 0⟩, 5, rfl, .inr (.inr ⟨C0.out, HND.out, .inr ⟨S1.out, D, S2.out, .inr ⟨S3.out, .inl ⟨fun q => by have := HF.out; simp only [Int.toNat_natCast] at q; omega, rfl, rfl⟩⟩⟩⟩), by have := HB2.out; exact BeL⟩
 ·rw [errV_ne c0] at C
  have C0 := Lib.hid c0
  clear c0
  go_enter Tryz.func99, Tryz.ntmps99
  go_wp2_with fail
  refine (C.out _ BeL).mono ?_
  rintro e w1 ⟨rfl, hb1⟩
  have hr0 : w1.cell? ⟨w.heap.size, 0, none⟩ = some (.int .i64 0) := (hb1.cell (p := ⟨w.heap.size, 0, none⟩) (by simp)).trans (by simp)
  have hr1 : w1.cell? ⟨w.heap.size, 1, none⟩ = some (.int .i64 0) := (hb1.cell (p := ⟨w.heap.size, 1, none⟩) (by simp)).trans (by simp)
  have hf0 := fun o => (hb1.frozen (p := ⟨w.heap.size, o, none⟩) (by simp)).trans (by simp : (w.alloc (.cells #[.int .i64 0, .int .i64 0] 34)).frozen? ⟨w.heap.size, o, none⟩ = false)
  have hlt := hb1.size
  simp at hlt
  have HB1 := Lib.hid hb1
  clear hb1
  go_wp2_with fail
  refine bodyPost_ret (v := .tuple #[.agg #[.int .i64 0, .int .i64 0], .iface 88 (.int .i64 (edgesC N zs))]) (by simp [results, Tryz.results99, go_sem, hr0, hr1, hf0]) rfl ?_
  exact ⟨⟨0, 0⟩, edgesC N zs, by rw [errV_ne C0.out], .inl ⟨C0.out, rfl, rfl⟩, by have := HB1.out; exact BeL⟩
end


section
open Go.RowKit
theorem tells_rev {l : List REdge} {n : Nat} {D : Nat → Nat → Int} {H : Nat → Nat → Bool} (h : Tells (Arc l) n D H) {a b : Nat} (ha : a < n) (hb : b < n) (hh : H a b = true) : H b a = true := by
 rcases h a b ha hb with ⟨h1, _⟩ | ⟨_, ⟨r, hw⟩, _⟩
 ·rw [hh] at h1; cases h1
 ·obtain ⟨s, d, g⟩ := way_rev hw
  rcases h b a hb ha with ⟨_, h2⟩ | ⟨h2, _⟩
  ·exact absurd g (h2 _ _)
  ·exact h2
def TimeS (n : Nat) (D : Nat → Nat → Int) (H : Nat → Nat → Bool) (F : Int) : Prop :=
 (F = 0 ∧ ∀ a b, a < n → b < n → H a b = true → timeB (D a b) = true) ∨ (F = 1 ∧ ∃ a b, a < n ∧ b < n ∧ H a b = true ∧ timeB (D a b) = false)
theorem time_neg {x : Int} (h : timeB x = true) : timeB (-x) = true := by
 rw [timeB_iff] at h ⊢; omega
theorem time_yes {l : List REdge} {n : Nat} {D E : Nat → Nat → Int} {H : Nat → Nat → Bool} (h : Tells (Arc l) n D H) (g : Tells (Arc l) n E (fun a b => decide (E a b < farI))) {a b : Nat} (ha : a < n) (hb : b < n)
  (ht : timeD E a b) (hh : H a b = true) : timeB (D a b) = true := by
 have hg := (h.has g ha hb).symm.trans hh
 rw [h.same g ha hb hh]
 exact (ht (of_decide_eq_true hg)).1
theorem time_no {l : List REdge} {n : Nat} {D E : Nat → Nat → Int} {H : Nat → Nat → Bool} (h : Tells (Arc l) n D H) (g : Tells (Arc l) n E (fun a b => decide (E a b < farI)))
  (ht : ∀ a b, a < n → b < n → H a b = true → timeB (D a b) = true) {a b : Nat} (ha : a < n) (hb : b < n) : timeD E a b := by
 intro hlt
 have hg : H a b = true := (h.has g ha hb).trans (decide_eq_true hlt)
 have hr := tells_rev h ha hb hg
 exact ⟨by rw [← h.same g ha hb hg]; exact ht a b ha hb hg, time_neg (by rw [← h.same g hb ha hr]; exact ht b a hb ha hr)⟩
def bndS (D : Nat → Nat → Int) (H : Nat → Nat → Bool) (a b : Nat) : RSpan := if H a b = true then ⟨-(D b a), D a b⟩ else ⟨0, 0⟩
theorem bet_tell {N : Nat} {zs : List REdge} {a b : Int} {x : RSpan} {c F : Int} {D : Nat → Nat → Int} {H : Nat → Nat → Bool} (h : BetS N zs a b x c) (hc : edgesC N zs = 0) (hs : ¬ Sunk (Arc zs) N) (hD : Tells (Arc zs) N D H) (hF : TimeS N D H F) :
  ((nodeB N a && nodeB N b) = false ∧ c = 1 ∧ x = ⟨0, 0⟩) ∨ (∃ i j : Nat, a = i ∧ b = j ∧ i < N ∧ j < N ∧
   ((F = 1 ∧ c = 1 ∧ x = ⟨0, 0⟩) ∨ (F = 0 ∧ ((H i j = false ∧ c = 5 ∧ x = ⟨0, 0⟩) ∨ (H i j = true ∧ c = 0 ∧ x = ⟨-(D j i), D i j⟩))))) := by
 rcases h with ⟨h, _⟩ | ⟨_, h1, h2, h3⟩ | ⟨_, h1, h⟩
 ·exact absurd hc h
 ·exact .inl ⟨h1, h2, h3⟩
 ·right
  simp only [Bool.and_eq_true, nodeB_iff] at h1
  obtain ⟨⟨p1, p2⟩, p3, p4⟩ := h1
  obtain ⟨i, rfl⟩ := Int.eq_ofNat_of_zero_le p1
  obtain ⟨j, rfl⟩ := Int.eq_ofNat_of_zero_le p3
  have hi : i < N := by omega
  have hj : j < N := by omega
  simp only [Int.toNat_natCast] at h
  refine ⟨i, j, rfl, rfl, hi, hj, ?_⟩
  rcases h with ⟨h, _⟩ | ⟨_, E, hE, h⟩
  ·exact absurd h hs
  ·rcases h with ⟨⟨p, q, hp, hq, h1⟩, h2, h3⟩ | ⟨h1, h2⟩
   ·left
    rcases hF with ⟨g1, g2⟩ | ⟨g1, _⟩
    ·exact absurd (time_no hD hE g2 hp hq) h1
    ·exact ⟨g1, h2, h3⟩
   ·right
    have hF0 : F = 0 := by
     rcases hF with ⟨g1, g2⟩ | ⟨g1, a', b', ha', hb', g2, g3⟩
     ·exact g1
     ·have := time_yes hD hE ha' hb' (h1 a' b' ha' hb') g2
      rw [g3] at this; cases this
    refine ⟨hF0, ?_⟩
    rcases h2 with ⟨q1, q2, q3⟩ | ⟨q1, q2, q3⟩
    ·exact .inl ⟨(hD.has hE hi hj).trans (decide_eq_false q1), q2, q3⟩
    ·have hg : H i j = true := (hD.has hE hi hj).trans (decide_eq_true q1)
     exact .inr ⟨hg, q2, by rw [q3, hD.same hE hi hj hg, hD.same hE hj hi (tells_rev hD hi hj hg)]⟩
end
end Go.Proofs.YtldlandcjegikaaGreatDoor
