/- What a node knows of others, in plain Lean: no program stands here. -/
import Derived.Test.YtldlandcjegikaaGreatDoorHK1
namespace Go.Proofs.YtldlandcjegikaaGreatDoor
open Go.RowKit
set_option linter.unusedVariables false
set_option linter.unusedSimpArgs false
structure Kn where
 lo : Int
 hi : Int
 at_ : Int
def Kn.val (k : Kn) : Value := .agg #[.int .i64 k.lo, .int .i64 k.hi, .int .i64 k.at_]
structure NSt where
 N : Nat
 id : Nat
 p : Int
 h : Int
 f : Int → Option Kn
structure NSt.Ok (s : NSt) : Prop where
 n1 : 1 ≤ s.N
 n6 : s.N ≤ 6
 idN : s.id < s.N
 p0 : 0 ≤ s.p
 p1 : s.p ≤ 1000
 h0 : -1 ≤ s.h
 h1 : s.h ≤ 1000000000000
 kn : ∀ x k, s.f x = some k → 0 ≤ x ∧ x < s.N ∧ x ≠ s.id ∧ 0 ≤ k.at_ ∧ k.at_ ≤ s.h ∧ rightB k.lo k.hi = true
def NSt.start (N id : Nat) (p : Int) : NSt := ⟨N, id, p, -1, fun _ => none⟩
theorem NSt.start_ok {N id : Nat} {p : Int} (h1 : 1 ≤ N) (h2 : N ≤ 6) (h3 : id < N) (h4 : 0 ≤ p) (h5 : p ≤ 1000) : (NSt.start N id p).Ok :=
 ⟨h1, h2, h3, h4, h5, by show -1 ≤ (-1 : Int); omega, by show (-1 : Int) ≤ _; omega, fun x k h => by cases h⟩
def NSt.backB (s : NSt) (here : Int) : Bool := decide (here < 0) || (decide (here < s.h) || decide (1000000000000 < here))
def NSt.heard (s : NSt) (here : Int) : NSt := ⟨s.N, s.id, s.p, here, s.f⟩
def NSt.learn (s : NSt) (x here lo hi : Int) : NSt := ⟨s.N, s.id, s.p, here, fun y => if y = x then some ⟨lo, hi, here⟩ else s.f y⟩
def ageL (k : Kn) (p here : Int) : Int := k.lo - slackD (here - k.at_) p
def ageH (k : Kn) (p here : Int) : Int := k.hi + slackD (here - k.at_) p
theorem NSt.back_no {s : NSt} {here : Int} (h : s.backB here = false) : 0 ≤ here ∧ s.h ≤ here ∧ here ≤ 1000000000000 := by
 unfold NSt.backB at h
 simp at h
 omega
def offL (L : RLetter) (here p : Int) : SE := offS L.t1 L.t2 L.t here p
inductive Hears (s : NSt) (L : RLetter) (here : Int) : Bool → Int → NSt → Prop
 | back (h : s.backB here = true) : Hears s L here false 8 s
 | shape (h : s.backB here = false) (h1 : L.dst ≠ s.id ∨ L.src = s.id ∨ L.src < 0 ∨ (s.N : Int) ≤ L.src) : Hears s L here false 3 s
 | ask (h : s.backB here = false) (h1 : L.dst = s.id) (h2 : L.src ≠ s.id) (h3 : 0 ≤ L.src) (h4 : L.src < s.N) (h5 : L.answer = false) : Hears s L here false 0 (s.heard here)
 | bad (h : s.backB here = false) (h1 : L.dst = s.id) (h2 : L.src ≠ s.id) (h3 : 0 ≤ L.src) (h4 : L.src < s.N) (h5 : L.answer = true) (h6 : (offL L here s.p).c ≠ 0) : Hears s L here false (offL L here s.p).c s
 | first (h : s.backB here = false) (h1 : L.dst = s.id) (h2 : L.src ≠ s.id) (h3 : 0 ≤ L.src) (h4 : L.src < s.N) (h5 : L.answer = true) (h6 : (offL L here s.p).c = 0) (h7 : s.f L.src = none) : Hears s L here true 0 (s.learn L.src here (offL L here s.p).lo (offL L here s.p).hi)
 | clash (k : Kn) (h : s.backB here = false) (h1 : L.dst = s.id) (h2 : L.src ≠ s.id) (h3 : 0 ≤ L.src) (h4 : L.src < s.N) (h5 : L.answer = true) (h6 : (offL L here s.p).c = 0) (h7 : s.f L.src = some k) (h8 : commonB (ageL k s.p here) (ageH k s.p here) (offL L here s.p).lo (offL L here s.p).hi = false) : Hears s L here false 7 s
 | more (k : Kn) (h : s.backB here = false) (h1 : L.dst = s.id) (h2 : L.src ≠ s.id) (h3 : 0 ≤ L.src) (h4 : L.src < s.N) (h5 : L.answer = true) (h6 : (offL L here s.p).c = 0) (h7 : s.f L.src = some k) (h8 : commonB (ageL k s.p here) (ageH k s.p here) (offL L here s.p).lo (offL L here s.p).hi = true) :
   Hears s L here true 0 (s.learn L.src here (max (ageL k s.p here) (offL L here s.p).lo) (min (ageH k s.p here) (offL L here s.p).hi))
theorem hears_total (s : NSt) (L : RLetter) (here : Int) : ∃ b c s', Hears s L here b c s' := by
 cases hb : s.backB here
 ·by_cases h1 : L.dst ≠ s.id ∨ L.src = s.id ∨ L.src < 0 ∨ (s.N : Int) ≤ L.src
  ·exact ⟨_, _, _, .shape hb h1⟩
  ·cases ha : L.answer
   ·exact ⟨_, _, _, .ask hb (by omega) (by omega) (by omega) (by omega) ha⟩
   ·by_cases hc : (offL L here s.p).c = 0
    ·cases hf : s.f L.src with
     | none => exact ⟨_, _, _, .first hb (by omega) (by omega) (by omega) (by omega) ha hc hf⟩
     | some k =>
      cases hm : commonB (ageL k s.p here) (ageH k s.p here) (offL L here s.p).lo (offL L here s.p).hi
      ·exact ⟨_, _, _, .clash k hb (by omega) (by omega) (by omega) (by omega) ha hc hf hm⟩
      ·exact ⟨_, _, _, .more k hb (by omega) (by omega) (by omega) (by omega) ha hc hf hm⟩
    ·exact ⟨_, _, _, .bad hb (by omega) (by omega) (by omega) (by omega) ha hc⟩
 ·exact ⟨_, _, _, .back hb⟩
theorem slack_bd {n p : Int} (h0 : 0 ≤ n) (h1 : n ≤ 2000000000000) (h2 : 0 ≤ p) (h3 : p ≤ 1000) : 0 ≤ slackD n p ∧ slackD n p ≤ 6000000002 := by
 have := byP_bd h0 h1 (show (0:Int) ≤ 3 * p by omega) (show 3 * p ≤ 3000 by omega)
 unfold slackD
 omega
theorem offS_right {t1 t2 t3 t4 p : Int} (h : (offS t1 t2 t3 t4 p).c = 0) : rightB (offS t1 t2 t3 t4 p).lo (offS t1 t2 t3 t4 p).hi = true := by
 unfold offS at h ⊢
 split at h
 ·rename_i g
  rw [if_pos g]
  split at h
  ·rename_i g2
   rw [if_pos g2]
   split at h
   ·rename_i g3
    rw [if_pos g3]
    split at h
    ·rename_i g4
     rw [if_pos g4]
     simp only [offIn, Bool.and_eq_true, timeB_iff] at g3
     rw [rightB_iff]
     simp only []
     omega
    ·simp at h
   ·simp at h
  ·simp at h
 ·rename_i g; simp at h; exact absurd h g
theorem NSt.heard_ok {s : NSt} {here : Int} (h : s.Ok) (hb : s.backB here = false) : (s.heard here).Ok := by
 obtain ⟨b0, b1, b2⟩ := NSt.back_no hb
 refine ⟨h.n1, h.n6, h.idN, h.p0, h.p1, by show -1 ≤ here; omega, b2, fun x k hk => ?_⟩
 obtain ⟨a, b, c, d, e, f⟩ := h.kn x k hk
 exact ⟨a, b, c, d, by show k.at_ ≤ here; omega, f⟩
theorem NSt.learn_ok {s : NSt} {x here lo hi : Int} (h : s.Ok) (hb : s.backB here = false) (h2 : x ≠ s.id) (h3 : 0 ≤ x) (h4 : x < s.N) (hr : rightB lo hi = true) : (s.learn x here lo hi).Ok := by
 obtain ⟨b0, b1, b2⟩ := NSt.back_no hb
 refine ⟨h.n1, h.n6, h.idN, h.p0, h.p1, by show -1 ≤ here; omega, b2, fun y k hk => ?_⟩
 by_cases c : y = x
 ·subst c
  have e : k = ⟨lo, hi, here⟩ := by
   have : (if y = y then some (⟨lo, hi, here⟩ : Kn) else s.f y) = some k := hk
   rw [if_pos rfl] at this
   exact (Option.some.inj this).symm
  subst e
  exact ⟨h3, h4, h2, b0, Int.le_refl _, hr⟩
 ·have : (if y = x then some (⟨lo, hi, here⟩ : Kn) else s.f y) = some k := hk
  rw [if_neg c] at this
  obtain ⟨a, b, c', d, e, f⟩ := h.kn y k this
  exact ⟨a, b, c', d, by show k.at_ ≤ here; omega, f⟩
theorem Hears.ok {s s' : NSt} {L : RLetter} {here : Int} {b : Bool} {c : Int} (h : Hears s L here b c s') (ho : s.Ok) : s'.Ok := by
 cases h with
 | back => exact ho
 | shape => exact ho
 | ask hb => exact NSt.heard_ok ho hb
 | bad => exact ho
 | first hb h1 h2 h3 h4 h5 h6 h7 => exact NSt.learn_ok ho hb h2 h3 h4 (offS_right h6)
 | clash => exact ho
 | more k hb h1 h2 h3 h4 h5 h6 h7 h8 =>
  refine NSt.learn_ok ho hb h2 h3 h4 ?_
  have hr := rightB_iff.1 (offS_right h6)
  unfold commonB at h8
  rw [decide_eq_true_eq] at h8
  rw [rightB_iff]
  unfold offL at h8 ⊢
  omega
theorem age_bd {s : NSt} {x here : Int} {k : Kn} (h : s.Ok) (hk : s.f x = some k) (hb : s.backB here = false) : 0 ≤ here - k.at_ ∧ here - k.at_ ≤ 1000000000000 ∧ 0 ≤ slackD (here - k.at_) s.p ∧ slackD (here - k.at_) s.p ≤ 6000000002 ∧ k.lo ≤ k.hi ∧ -1000000000000 ≤ k.lo ∧ k.hi ≤ 1000000000000 := by
 obtain ⟨b0, b1, b2⟩ := NSt.back_no hb
 obtain ⟨a, b, c, d, e, f⟩ := h.kn x k hk
 obtain ⟨f1, f2, f3⟩ := rightB_iff.1 f
 have := slack_bd (n := here - k.at_) (p := s.p) (by omega) (by omega) h.p0 h.p1
 exact ⟨by omega, by omega, this.1, this.2, f1, f2, f3⟩
end Go.Proofs.YtldlandcjegikaaGreatDoor
