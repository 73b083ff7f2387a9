/- The reference's node: Back, aged, walked. -/
import Derived.Test.YtlkekkpknmbobaaDoorRNodeP
import Derived.Test.YtlkekkpknmbobaaDoorRMeet
import Derived.Test.YtlkekkpknmbobaaDoorTake
import Derived.Test.YtlkekkpknmbobaaDoorArr
import Derived.Deep.RegionHeld3
import Derived.Deep.DeepCutAuto
import Derived.BigRegion
import Derived.BigQuiet
namespace Go.Proofs.YtlkekkpknmbobaaDoor
open Go.RowKit
set_option linter.unusedVariables false
set_option linter.unusedSimpArgs false
structure RNodeAt (w : World) (M : Nat) (s : NSt) : Prop where
  blk : Blk w M 46 (rcells s)
  ok : s.Ok
theorem RNodeAt.below {w w' : World} {M : Nat} {s : NSt} (h : RNodeAt w M s) (hb : Below w.heap.size w w') : RNodeAt w' M s := ⟨h.blk.below hb h.blk.lt, h.ok⟩
theorem RNodeAt.other {w w' : World} {M : Nat} {s : NSt} {P : Nat → Prop} (h : RNodeAt w M s) (hk : Kept P w w') (h1 : ¬ P M) : RNodeAt w' M s := ⟨(hk.block M h.blk.lt h1).trans h.blk, h.ok⟩
theorem RNodeAt.c0 {w : World} {M : Nat} {s : NSt} (h : RNodeAt w M s) : w.cell? ⟨M, 0, none⟩ = some (.int .i64 s.id) := h.blk.cell 0
theorem RNodeAt.c1 {w : World} {M : Nat} {s : NSt} (h : RNodeAt w M s) : w.cell? ⟨M, 1, none⟩ = some (.int .i64 s.N) := h.blk.cell 1
theorem RNodeAt.c2 {w : World} {M : Nat} {s : NSt} (h : RNodeAt w M s) : w.cell? ⟨M, 2, none⟩ = some (.int .i64 s.p) := h.blk.cell 2
theorem RNodeAt.c3 {w : World} {M : Nat} {s : NSt} (h : RNodeAt w M s) : w.cell? ⟨M, 3, none⟩ = some (.int .i64 s.h) := h.blk.cell 3
theorem RNodeAt.chas {w : World} {M : Nat} {s : NSt} (h : RNodeAt w M s) {x : Nat} (hx : x < 6) : w.cell? ⟨M, 4 + x, none⟩ = some (.bool (s.f x).isSome) := (h.blk.cell (4 + x)).trans (rcell_has s hx)
theorem RNodeAt.clo {w : World} {M : Nat} {s : NSt} (h : RNodeAt w M s) {x : Nat} {k : Kn} (hx : x < 6) (hk : s.f x = some k) : w.cell? ⟨M, 10 + x * 2, none⟩ = some (.int .i64 k.lo) := (h.blk.cell (10 + x * 2)).trans ((rcell_lo s hx).trans (by unfold loV; rw [hk]; rfl))
theorem RNodeAt.chi {w : World} {M : Nat} {s : NSt} (h : RNodeAt w M s) {x : Nat} {k : Kn} (hx : x < 6) (hk : s.f x = some k) : w.cell? ⟨M, 10 + x * 2 + 1, none⟩ = some (.int .i64 k.hi) := (h.blk.cell (10 + x * 2 + 1)).trans ((rcell_hi s hx).trans (by unfold hiV; rw [hk]; rfl))
theorem RNodeAt.cat {w : World} {M : Nat} {s : NSt} (h : RNodeAt w M s) {x : Nat} {k : Kn} (hx : x < 6) (hk : s.f x = some k) : w.cell? ⟨M, 22 + x, none⟩ = some (.int .i64 k.at_) := (h.blk.cell (22 + x)).trans ((rcell_at s hx).trans (by unfold atV; rw [hk]; rfl))
set_option maxRecDepth 100000 in
set_option maxHeartbeats 4000000 in
theorem r2_Back (M : Nat) (s : NSt) (here : Int) (w : World) (h : RNodeAt w M s) :
    Calls Tryd.prog 24 #[.pointer (some ⟨M, 0, none⟩), .int .i64 here] w fun e w' => e = .returned (.bool (s.backB here)) ∧ w = w' := by
  have c3 := h.c3
  have hd : (here < 0 ∧ s.backB here = true) ∨ (¬ here < 0 ∧ 1000000000000 < here ∧ s.backB here = true) ∨ (¬ here < 0 ∧ ¬ 1000000000000 < here ∧ here < s.h ∧ s.backB here = true) ∨ (¬ here < 0 ∧ ¬ 1000000000000 < here ∧ ¬ here < s.h ∧ s.backB here = false) := by
    unfold NSt.backB
    by_cases d1 : here < 0
    · left; exact ⟨d1, by rw [decide_eq_true d1]; rfl⟩
    · by_cases d2 : 1000000000000 < here
      · right; left; exact ⟨d1, d2, by rw [decide_eq_true d2]; simp⟩
      · by_cases d3 : here < s.h
        · right; right; left; exact ⟨d1, d2, d3, by rw [decide_eq_true d3]; simp⟩
        · right; right; right; exact ⟨d1, d2, d3, by rw [decide_eq_false d1, decide_eq_false d2, decide_eq_false d3]; rfl⟩
  clear h
  obtain ⟨q, hq⟩ : ∃ q, s.backB here = q := ⟨_, rfl⟩
  rw [hq] at hd ⊢
  clear hq
  rcases hd with ⟨d1, rfl⟩ | ⟨d1, d2, rfl⟩ | ⟨d1, d2, d3, rfl⟩ | ⟨d1, d2, d3, rfl⟩
  all_goals
    go_enter Tryd.func24, Tryd.ntmps24
    go_wp2_with fail
    go_ret
    exact ⟨rfl, rfl⟩
set_option maxRecDepth 100000 in
set_option maxHeartbeats 8000000 in
theorem r2_aged (M : Nat) (s : NSt) (x : Nat) (here : Int) (k : Kn) (w : World) (h : RNodeAt w M s) (hx : x < 6) (hk : s.f x = some k) (hb : s.backB here = false) :
    Calls Tryd.prog 27 #[.pointer (some ⟨M, 0, none⟩), .int .i64 x, .int .i64 here] w fun e w' => e = .returned (.agg #[.int .i64 (ageL k s.p here), .int .i64 (ageH k s.p here)]) ∧ Below w.heap.size w w' := by
  obtain ⟨b1, b2, b3, b4, b5, b6, b7⟩ := age_bd h.ok hk hb
  have c2 := h.c2
  have ca := h.cat hx hk
  have cl := h.clo hx hk
  have ch := h.chi hx hk
  have kl := h.blk.lt
  have CS := Lib.hid (fun w => r1_Slack (here - k.at_) s.p w b1 (by omega) h.ok.p0 h.ok.p1)
  obtain ⟨v, hv⟩ : ∃ v, slackD (here - k.at_) s.p = v := ⟨_, rfl⟩
  have HA := Lib.hid (show ageL k s.p here = k.lo - v by unfold ageL; rw [hv])
  have HH := Lib.hid (show ageH k s.p here = k.hi + v by unfold ageH; rw [hv])
  rw [hv] at CS b3 b4
  rw [HA.out, HH.out]
  have u1 := IntWalk.i64_in (here - k.at_) (by omega)
  have u2 := IntWalk.i64_in (k.lo - v) (by omega)
  have u3 := IntWalk.i64_in (k.hi + v) (by omega)
  have q0 : (0 : Int) ≤ (x : Int) := by omega
  have q1 : (x : Int) < 6 := by omega
  clear h hk hb hv HA HH
  go_enter Tryd.func27, Tryd.ntmps27
  go_wp2_with fail
  go_quiet ((go_at_call 35; exact quiet_left (CS.out _)))
  go_wp2_with fail
  go_region
  go_wp2_with fail
  refine bodyPost_ret (v := .agg #[.int .i64 (k.lo - v), .int .i64 (k.hi + v)]) (by simp [results, Tryd.results27, go_sem]) rfl ⟨rfl, (by repeat (first | with_reducible exact Below.refl _ _ | (with_reducible refine Below.alloc ?_ (by first | omega | (simp; done) | (simp; omega)) _) | (with_reducible refine Below.setCell ?_ (by first | omega | (simp; done) | (simp; omega)) _) | (with_reducible refine Below.drew ?_) | (with_reducible refine below_drewN ?_ _) | (with_reducible assumption) | (with_reducible refine bel_step (by with_reducible assumption) ?_ (by first | omega | (simp; done) | (simp; omega)))))⟩
end Go.Proofs.YtlkekkpknmbobaaDoor
