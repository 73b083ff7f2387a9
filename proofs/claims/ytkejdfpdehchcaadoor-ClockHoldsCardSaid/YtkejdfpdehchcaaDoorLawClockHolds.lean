/- Proved: the tied card of noonlaw2.ClockHolds: it answers true for every input and leaves its arguments as they were. The card's own condition: errors.errorType holds what the program's text lays there. -/
import Derived.Test.YtkejdfpdehchcaaDoorDoor
import Derived.Test.YtkejdfpdehchcaaDoorClock
namespace Go.Proofs.YtkejdfpdehchcaaDoor.lClockHolds
open Go.ChangeShapes Go.WideShapes Go.ChangeAt Go.RowKit
set_option linter.unusedVariables false
set_option linter.unusedSimpArgs false
theorem tdivM (n : Int) : (if n < n.tdiv 1000000 * 1000000 then n.tdiv 1000000 - 1 else n.tdiv 1000000) = n / 1000000 := by
  have h1 := Int.mul_tdiv_add_tmod n 1000000
  have h2 : n.tmod 1000000 < 1000000 := Int.tmod_lt_of_pos n (by omega)
  have h3 : (-n).tmod 1000000 < 1000000 := Int.tmod_lt_of_pos (-n) (by omega)
  rw [Int.neg_tmod] at h3
  split <;> omega
theorem byP_bd0 {n p : Int} (h0 : 0 ≤ n) (h2 : 0 ≤ p) : 0 ≤ byP n p := by
  unfold byP
  exact (upD_bd (Int.mul_nonneg h0 h2) (by omega)).1
def flD (r t : Int) : Int := t * r / 1000000
def shw (r t : Int) : Int := t + flD r t
theorem fl_step {r p t d : Int} (h0 : 0 ≤ d) (hp : 0 ≤ p) (hq : p ≤ 1000) (r1 : -p ≤ r) (r2 : r ≤ p) :
    ∃ b, -(p * d) ≤ b ∧ b ≤ p * d ∧ flD r (t + d) = (t * r + b) / 1000000 ∧ 0 ≤ p * d ∧ p * d ≤ 1000 * d := by
  refine ⟨d * r, ?_, ?_, ?_, Int.mul_nonneg hp h0, Int.mul_le_mul_of_nonneg_right hq h0⟩
  · have := Int.mul_le_mul_of_nonneg_right r1 h0
    rw [Int.neg_mul] at this
    rw [Int.mul_comm d r]; exact this
  · have := Int.mul_le_mul_of_nonneg_right r2 h0
    rw [Int.mul_comm d r]; exact this
  · unfold flD; rw [Int.add_mul]
theorem shw_mono {r p t d : Int} (h0 : 0 ≤ d) (hp : 0 ≤ p) (hq : p ≤ 1000) (r1 : -p ≤ r) (r2 : r ≤ p) : shw r t ≤ shw r (t + d) := by
  obtain ⟨b, b1, b2, b3, b4, b5⟩ := fl_step (t := t) h0 hp hq r1 r2
  unfold shw
  rw [b3]
  unfold flD
  omega
theorem fl_bd {r p t : Int} (h0 : 0 ≤ t) (h1 : t ≤ 100000000) (hp : 0 ≤ p) (hq : p ≤ 1000) (r1 : -p ≤ r) (r2 : r ≤ p) : -100000 ≤ flD r t ∧ flD r t ≤ 100000 ∧ 0 ≤ shw r t := by
  obtain ⟨b, b1, b2, b3, b4, b5⟩ := fl_step (t := 0) h0 hp hq r1 r2
  have e : (0 : Int) + t = t := by omega
  rw [e] at b3
  unfold shw
  rw [b3]
  omega
/-- by how much the truth wanders is within what is told. -/
theorem fl_within {r p t d : Int} (h0 : 0 ≤ d) (hp : 0 ≤ p) (hq : p ≤ 1000) (r1 : -p ≤ r) (r2 : r ≤ p) :
    flD r t - (1 + byP (shw r (t + d) - shw r t) (2 * p)) ≤ flD r (t + d) ∧ flD r (t + d) ≤ flD r t + (1 + byP (shw r (t + d) - shw r t) (2 * p)) := by
  obtain ⟨b, b1, b2, b3, b4, b5⟩ := fl_step (t := t) h0 hp hq r1 r2
  have hm := shw_mono (t := t) h0 hp hq r1 r2
  generalize hx : shw r (t + d) - shw r t = x
  have hx0 : 0 ≤ x := by omega
  have hxd : x = d + (flD r (t + d) - flD r t) := by unfold shw at hx; omega
  generalize hF : flD r (t + d) - flD r t = F
  rw [hF] at hxd
  have hb := byP_bd0 hx0 (show 0 ≤ 2 * p by omega)
  have hFa : F = (t * r + b) / 1000000 - t * r / 1000000 := by rw [← hF, b3]; rfl
  rcases Int.lt_or_le (d + 2 * F) 0 with hlt | hge
  · omega
  · have h2 := Int.mul_nonneg hge hp
    have e2 : x * (2 * p) = p * d + (d + 2 * F) * p := by
      subst hxd
      have a1 : (d + F) * (2 * p) = 2 * (d * p) + 2 * (F * p) := by rw [Int.add_mul, Int.mul_left_comm, Int.mul_left_comm F]
      have a2 : (d + 2 * F) * p = d * p + 2 * (F * p) := by rw [Int.add_mul, Int.mul_assoc]
      have a3 := Int.mul_comm p d
      omega
    have hu := upD_spec (a := x * (2 * p)) (b := 1000000) (by omega)
    unfold byP at hb ⊢
    omega
structure HInv (start rate p T : Int) (c : CK) (is learned : Bool) (last : Int) : Prop where
  t0 : 0 ≤ T
  ok : c.ok
  e1 : c.ppm = p
  e2 : c.here = shw rate T
  e3 : learned = c.known
  e4 : is = c.told
  e5 : is = true → last = c.last
  e6 : learned = true → ∃ T0, 0 ≤ T0 ∧ T0 ≤ T ∧ c.at_ = shw rate T0 ∧ c.lo ≤ start - flD rate T0 ∧ start - flD rate T0 ≤ c.hi ∧ -2000000 ≤ c.lo ∧ c.hi ≤ 3000000
theorem HInv.aged {start rate p T : Int} {c : CK} {is learned : Bool} {last : Int} (h : HInv start rate p T c is learned last) (hl : learned = true) (h1 : T ≤ 100000000) (hp : 0 ≤ p) (hq : p ≤ 1000) (r1 : -p ≤ rate) (r2 : rate ≤ p) :
    0 ≤ agedN c ∧ agedN c ≤ 300000 ∧ c.lo - agedN c ≤ start - flD rate T ∧ start - flD rate T ≤ c.hi + agedN c ∧ -2000000 ≤ c.lo ∧ c.hi ≤ 3000000 := by
  obtain ⟨T0, a0, a1, a2, a3, a4, a5, a6⟩ := h.e6 hl
  have hd := fl_within (t := T0) (d := T - T0) (by omega) hp hq r1 r2
  have e : T0 + (T - T0) = T := by omega
  rw [e] at hd
  have hg : agedN c = 1 + byP (shw rate T - shw rate T0) (2 * p) := by unfold agedN; rw [h.e1, h.e2, a2]
  rw [← hg] at hd
  have b1 := fl_bd (by omega) h1 hp hq r1 r2 (t := T)
  have b2 := fl_bd a0 (by omega) hp hq r1 r2 (t := T0)
  have hm := shw_mono (t := T0) (d := T - T0) (by omega) hp hq r1 r2
  rw [e] at hm
  have hx : shw rate T - shw rate T0 ≤ 100200000 := by unfold shw; omega
  have hm2 := mul_bd (show 0 ≤ shw rate T - shw rate T0 by omega) hx (show (0:Int) ≤ 2 * p by omega) (show 2 * p ≤ 2000 by omega)
  have hu := upD_mono hm2.2 (show (1 : Int) ≤ 1000000 by omega)
  have hv : upD (100200000 * 2000) 1000000 = 200400 := rfl
  have h0 := byP_bd0 (show 0 ≤ shw rate T - shw rate T0 by omega) (show (0:Int) ≤ 2 * p by omega)
  have hw : byP (shw rate T - shw rate T0) (2 * p) ≤ 200400 := by unfold byP; omega
  omega
theorem HInv.now {start rate p T : Int} {c : CK} {is learned : Bool} {last : Int} (h : HInv start rate p T c is learned last) (hl : learned = true) (h1 : T ≤ 100000000) (hp : 0 ≤ p) (hq : p ≤ 1000) (r1 : -p ≤ rate) (r2 : rate ≤ p) (s0 : 0 ≤ start) (s1 : start ≤ 1000000) :
    ∃ l u, nowS c = ⟨l, u, 0⟩ ∧ l ≤ start + T ∧ start + T ≤ u ∧ -1000000000000 ≤ l ∧ u ≤ 1000000000000 := by
  obtain ⟨a0, a1, a2, a3, a4, a5⟩ := h.aged hl h1 hp hq r1 r2
  have b := fl_bd h.t0 h1 hp hq r1 r2
  have hh : c.here = T + flD rate T := h.e2
  have ht := h.t0
  refine ⟨c.lo - agedN c + c.here, c.hi + agedN c + c.here, ?_, by omega, by omega, by omega, by omega⟩
  unfold nowS
  rw [if_pos (by rw [← h.e3]; exact hl)]
  unfold whole
  rw [if_pos (rightB_iff.2 (by omega))]
theorem HInv.step {start rate p T v : Int} {c : CK} {is learned : Bool} {last : Int} (h : HInv start rate p T c is learned last) (h1 : T ≤ 90000000) (hp : 0 ≤ p) (hq : p ≤ 1000) (r1 : -p ≤ rate) (r2 : rate ≤ p) (v0 : 0 ≤ v) (v1 : v ≤ 1000000) :
    stepC c (shw rate (T + v)) = 0 ∧ HInv start rate p (T + v) (stepK c (shw rate (T + v))) is learned last := by
  have b := fl_bd (t := T + v) (by have := h.t0; omega) (by omega) hp hq r1 r2
  have hm := shw_mono (t := T) v0 hp hq r1 r2
  have e2 := h.e2
  have ht := h.t0
  have hs : shw rate (T + v) = T + v + flD rate (T + v) := rfl
  have e : stepC c (shw rate (T + v)) = 0 := by unfold stepC; rw [if_neg (by omega), if_neg (by omega)]
  refine ⟨e, ?_⟩
  unfold stepK
  rw [if_pos e]
  obtain ⟨k1, k2, k3, k4, k5, k6, k7, k8, k9, k10⟩ := h.ok
  exact ⟨by omega, ⟨k1, k2, k3, by simp only []; omega, by simp only []; omega, k6, k7, k8, k9, k10⟩, h.e1, rfl, h.e3, h.e4, h.e5, fun hl => by
    obtain ⟨T0, a0, a1, a2⟩ := h.e6 hl
    exact ⟨T0, a0, by omega, a2⟩⟩
theorem HInv.learn {start rate p T v w : Int} {c : CK} {is learned : Bool} {last : Int} (h : HInv start rate p T c is learned last) (h1 : T ≤ 100000000) (hp : 0 ≤ p) (hq : p ≤ 1000) (r1 : -p ≤ rate) (r2 : rate ≤ p) (s0 : 0 ≤ start) (s1 : start ≤ 1000000)
    (v0 : 0 ≤ v) (v1 : v ≤ 1000000) (w0 : 0 ≤ w) (w1 : w ≤ 1000000) :
    learnC c (start + T - shw rate T - v) (start + T - shw rate T + w) = 0 ∧ HInv start rate p T (learnK c (start + T - shw rate T - v) (start + T - shw rate T + w)) is true last := by
  have b := fl_bd h.t0 h1 hp hq r1 r2
  have hs : start + T - shw rate T = start - flD rate T := by unfold shw; omega
  rw [hs]
  have hr : rightB (start - flD rate T - v) (start - flD rate T + w) = true := rightB_iff.2 (by omega)
  obtain ⟨k1, k2, k3, k4, k5, k6, k7, k8, k9, k10⟩ := h.ok
  have e3 := h.e3
  have ht := h.t0
  cases learned with
  | false =>
    have e : learnC c (start - flD rate T - v) (start - flD rate T + w) = 0 := by unfold learnC; rw [if_pos hr, if_neg (by rw [← e3]; simp)]
    refine ⟨e, ?_⟩
    unfold learnK
    rw [if_pos e, if_neg (by rw [← e3]; simp)]
    exact ⟨ht, ⟨k1, k2, by simp only []; omega, by simp, k5, by simp only []; omega, by simp only []; omega, by simp only []; omega, k9, k10⟩, h.e1, h.e2, rfl, h.e4, h.e5, fun _ => ⟨T, ht, by omega, h.e2, by simp only []; omega, by simp only []; omega, by simp only []; omega, by simp only []; omega⟩⟩
  | true =>
    obtain ⟨a0, a1, a2, a3, a4, a5⟩ := h.aged rfl h1 hp hq r1 r2
    obtain ⟨l, u, n0, n1, n2, n3, n4⟩ := h.now rfl h1 hp hq r1 r2 s0 s1
    have e : learnC c (start - flD rate T - v) (start - flD rate T + w) = 0 := by
      unfold learnC
      rw [if_pos hr, if_pos e3.symm, n0, if_pos rfl, if_pos (by unfold commonB; simp only [decide_eq_true_eq]; omega)]
    refine ⟨e, ?_⟩
    unfold learnK
    rw [if_pos e, if_pos e3.symm]
    exact ⟨ht, ⟨k1, k2, by simp only []; omega, by simp, k5, by simp only []; omega, by simp only []; omega, by simp only []; omega, k9, k10⟩, h.e1, h.e2, rfl, h.e4, h.e5, fun _ => ⟨T, ht, by omega, h.e2, by simp only []; omega, by simp only []; omega, by simp only []; omega, by simp only []; omega⟩⟩
theorem HInv.point {start rate p T : Int} {c : CK} {is learned : Bool} {last : Int} (h : HInv start rate p T c is learned last) (h1 : T ≤ 100000000) (hp : 0 ≤ p) (hq : p ≤ 1000) (r1 : -p ≤ rate) (r2 : rate ≤ p) (s0 : 0 ≤ start) (s1 : start ≤ 1000000) :
    (learned = false ∧ pointC c = 6 ∧ pointK c = c) ∨ (learned = true ∧ pointC c = 8 ∧ pointK c = c) ∨ (learned = true ∧ pointC c = 0 ∧ (is = true → last ≤ pointV c) ∧ HInv start rate p T (pointK c) true learned (pointV c)) := by
  have e3 := h.e3
  cases hl : learned with
  | false =>
    left
    have n0 : nowS c = ⟨0, 0, 6⟩ := by unfold nowS; rw [if_neg (by rw [← e3, hl]; simp)]
    have e : pointC c = 6 := by unfold pointC; rw [n0]; rfl
    exact ⟨rfl, e, by unfold pointK; rw [if_neg (by omega)]⟩
  | true =>
    right
    obtain ⟨l, u, n0, n1, n2, n3, n4⟩ := h.now hl h1 hp hq r1 r2 s0 s1
    obtain ⟨k1, k2, k3, k4, k5, k6, k7, k8, k9, k10⟩ := h.ok
    have hm : midV c = (l + u) / 2 := by simp [midV, n0]
    by_cases q : u < pointN c
    · left
      have e : pointC c = 8 := by unfold pointC; rw [n0, if_pos rfl, if_pos q]
      exact ⟨rfl, e, by unfold pointK; rw [if_neg (by omega)]⟩
    · right
      have e : pointC c = 0 := by unfold pointC; rw [n0, if_pos rfl, if_neg q]
      have ev : pointV c = pointN c := by unfold pointV; rw [if_pos e]
      have lo : -1000000000000 ≤ pointN c := by
        unfold pointN
        split <;> omega
      refine ⟨rfl, e, fun hi => ?_, ?_⟩
      · rw [ev, h.e5 hi]
        unfold pointN
        rw [if_pos (by rw [← h.e4]; exact hi)]
        omega
      · unfold pointK
        rw [if_pos e]
        exact ⟨h.t0, ⟨k1, k2, k3, k4, k5, k6, k7, k8, lo, by simp only []; omega⟩, h.e1, h.e2, by simp only []; rw [← e3, hl], rfl, fun _ => ev, fun _ => h.e6 hl⟩
theorem HInv.init {start rate p : Int} (hp : 0 ≤ p) (hq : p ≤ 1000) : HInv start rate p 0 ⟨p, 0, false, 0, 0, 0, false, 0⟩ false false 0 :=
  ⟨by omega, ⟨hp, hq, by simp, by simp, by simp, by simp, by simp, by simp, by simp, by simp⟩, rfl, by simp [shw, flD], rfl, rfl, by simp, by simp⟩
theorem HInv.has {start rate p T : Int} {c : CK} {is learned : Bool} {last : Int} (h : HInv start rate p T c is learned last) (hl : learned = true) (h1 : T ≤ 100000000) (hp : 0 ≤ p) (hq : p ≤ 1000) (r1 : -p ≤ rate) (r2 : rate ≤ p) (s0 : 0 ≤ start) (s1 : start ≤ 1000000) :
    ∃ l u, nowS c = ⟨l, u, 0⟩ ∧ rightB l u = true ∧ hasB l u (start + T) = true := by
  obtain ⟨l, u, a, b, c', d, e⟩ := h.now hl h1 hp hq r1 r2 s0 s1
  have r := rightB_iff.2 (show l ≤ u ∧ -1000000000000 ≤ l ∧ u ≤ 1000000000000 by omega)
  exact ⟨l, u, a, r, by simp [hasB, r]; omega⟩
structure LInv (n : Nat) (T : Int) (i : Nat) : Prop where
  a1 : i ≤ n
  a2 : i ≤ 60
  a3 : T ≤ 1000000 * i
theorem shows_any (r t : Int) (w : World) (h0 : 0 ≤ t) (h1 : t ≤ 100000000) (h2 : -1000 ≤ r) (h3 : r ≤ 1000) :
    Calls Tryd.prog 45 #[.int .i64 0, .int .i64 r, .int .i64 t] w fun e w' => e = .returned (.int .i64 (shw r t)) ∧ w = w' := by
  have a1 : t * r ≤ t * 1000 := Int.mul_le_mul_of_nonneg_left h3 h0
  have a2 : t * (-1000) ≤ t * r := Int.mul_le_mul_of_nonneg_left h2 h0
  have p1 : -100000000000 ≤ t * r := by omega
  have p2 : t * r ≤ 100000000000 := by omega
  clear a1 a2
  have hd := Lib.hid (tdivM (t * r))
  have t1 : -100000000000 ≤ Int.tdiv (t * r) 1000000 := by
    have := Int.mul_tdiv_add_tmod (t * r) 1000000; have := Int.tmod_lt_of_pos (t * r) (show (0:Int) < 1000000 by omega); have h9 := Int.tmod_lt_of_pos (-(t * r)) (show (0:Int) < 1000000 by omega); rw [Int.neg_tmod] at h9; omega
  have t2 : Int.tdiv (t * r) 1000000 ≤ 100000000000 := by
    have := Int.mul_tdiv_add_tmod (t * r) 1000000; have := Int.tmod_lt_of_pos (t * r) (show (0:Int) < 1000000 by omega); have h9 := Int.tmod_lt_of_pos (-(t * r)) (show (0:Int) < 1000000 by omega); rw [Int.neg_tmod] at h9; omega
  by_cases c : t * r < Int.tdiv (t * r) 1000000 * 1000000
  · go_enter Tryd.func45, Tryd.ntmps45
    go_wp2_with fail
    go_ret
    exact ⟨ret_int (by unfold shw flD; have := hd.out; rw [if_pos c] at this; omega), rfl⟩
  · go_enter Tryd.func45, Tryd.ntmps45
    go_wp2_with fail
    go_ret
    exact ⟨ret_int (by unfold shw flD; have := hd.out; rw [if_neg (by omega)] at this; omega), rfl⟩
structure V3 (n j : Nat) (x y z : Int) : Prop where
  b1 : j ≤ n
  b2 : j ≤ 3
  x1 : i64B x
  y1 : i64B y
  z1 : i64B z
theorem i64_0 : i64B 0 := by unfold i64B; omega
theorem V3.one {n j : Nat} {x y z u : Int} (h : V3 n j x y z) (hj : j < n) (h2 : j < 3) (hu : i64B u) : V3 n (j + 1) (if j = 0 then u else x) (if j = 1 then u else y) (if j = 2 then u else z) := by
  obtain ⟨p1, p2, p3, p4, p5⟩ := h
  refine ⟨by omega, by omega, ?_, ?_, ?_⟩ <;> split <;> assumption
set_option maxRecDepth 100000 in
set_option maxHeartbeats 16000000 in
theorem walk (a0 : Int) (a1 : Int) (a2 : Int) (a3 : Option Addr) (n3 c3 : Nat) (z3 : List RInts) (w : World) (h0 : -9223372036854775808 ≤ a0 ∧ a0 ≤ 9223372036854775807) (h1 : -9223372036854775808 ≤ a1 ∧ a1 ≤ 9223372036854775807) (h2 : -9223372036854775808 ≤ a2 ∧ a2 ≤ 9223372036854775807) (h3 : IsRecs w RInts.cells (RInts.ok w) 1 a3 n3 c3 z3) (hg : HandleAt w) :
    Calls Tryd.prog 10 #[.int .i64 a0, .int .i64 a1, .int .i64 a2, .slice a3 n3 c3] w fun e w' => e = .returned (.bool true) ∧ Below w.heap.size w w' := by
  have HG := Lib.hid hg
  clear hg
  obtain ⟨l1, l2, l3, l4, l5⟩ := h3
  unfold maxLen at l3
  have L1 := Lib.hid l1
  have L4 := Lib.hid l4
  have L5 := Lib.hid l5
  clear l1 l4 l5
  have f0 : rateB 100 = true := rfl
  have f1 : stepC ⟨100, 0, false, 0, 0, 0, false, 0⟩ 1000 = 0 := rfl
  have f2 : stepK ⟨100, 0, false, 0, 0, 0, false, 0⟩ 1000 = ⟨100, 1000, false, 0, 0, 0, false, 0⟩ := rfl
  have f3 : learnC ⟨100, 1000, false, 0, 0, 0, false, 0⟩ 5 7 = 0 := rfl
  have f4 : learnK ⟨100, 1000, false, 0, 0, 0, false, 0⟩ 5 7 = ⟨100, 1000, true, 5, 7, 1000, false, 0⟩ := rfl
  have f5 : nowS ⟨100, 1000, true, 5, 7, 1000, false, 0⟩ = ⟨1004, 1008, 0⟩ := rfl
  have F2 := Lib.hid f2
  have F4 := Lib.hid f4
  have O2 := Lib.hid (show CK.ok ⟨100, 1000, false, 0, 0, 0, false, 0⟩ from ⟨by simp, by simp, by simp, by simp, by simp, by simp, by simp, by simp, by simp, by simp⟩)
  have O4 := Lib.hid (show CK.ok ⟨100, 1000, true, 5, 7, 1000, false, 0⟩ from ⟨by simp, by simp, by simp, by simp, by simp, by simp, by simp, by simp, by simp, by simp⟩)
  have KH := Lib.hid (show ∀ (w : World) (p : Int), ClockAt (World.alloc w (.cells (CK.cells ⟨p, 0, false, 0, 0, 0, false, 0⟩) 139)) w.heap.size 139 ⟨p, 0, false, 0, 0, 0, false, 0⟩ from fun w p => Blk.new w _ _)
  clear f2 f4
  go_enter Tryd.func10, Tryd.ntmps10
  go_wp2_with fail
  (try (go_at_call 30; refine (clock_New_ok _ _ f0).mono ?_; rintro e w' ⟨rfl, rfl⟩; (try go_wp2_with fail)))
  refine (clock_Step _ _ _ _ (KH.out _ _)).mono ?_
  rintro e w1 ⟨rfl, hk1, ht1⟩
  rw [F2.out] at hk1
  have HK1 := Lib.hid hk1
  have hB1 : Below w.heap.size w w1 := (show Below w.heap.size w (w.alloc _) from (by repeat (first | with_reducible exact Below.refl _ _ | (with_reducible refine Below.alloc ?_ (by first | omega | (simp; done) | (simp; omega)) _) | (with_reducible refine Below.setCell ?_ (by first | omega | (simp; done) | (simp; omega)) _) | (with_reducible refine Below.drew ?_) | (with_reducible refine below_drewN ?_ _) | (exact (by assumption)) | (with_reducible refine bel_step (by assumption) ?_ (by first | omega | (simp; done) | (simp; omega)))))).trans (ht1.below (Nat.le_refl _) (by simp))
  have hz1 := ht1.size
  simp at hz1
  clear hk1 ht1
  go_wp2_with fail
  refine (clock_Learn _ _ _ _ _ HK1.out O2.out).mono ?_
  rintro e w2 ⟨rfl, hk2, ht2⟩
  rw [F4.out] at hk2
  have HK2 := Lib.hid hk2
  have HB2 := Lib.hid (hB1.trans (ht2.below (Nat.le_refl _) (by omega)))
  have hz2 := ht2.size
  clear hk2 ht2 hB1
  go_wp2_with fail
  refine (clock_Now _ _ _ HK2.out O4.out).mono ?_
  rintro e w3 ⟨rfl, hb3⟩
  have HB3 := Lib.hid (HB2.out.trans (hb3.mono (by omega)))
  have hz3 := hb3.size
  clear hb3 HB2 HK1 HK2 F2 F4
  go_wp2_with fail
  all_goals first | (go_ret; exact ⟨rfl, HB3.out.alloc (by omega) _⟩) | skip
  have p0 : 0 ≤ a0 := by omega
  have p1 : a0 ≤ 1000 := by omega
  have r1 : -a0 ≤ a1 := by omega
  have r2 : a1 ≤ a0 := by omega
  have s0 : 0 ≤ a2 := by omega
  have s1 : a2 ≤ 1000000 := by omega
  have c0 : rateB a0 = true := rateB_iff.2 ⟨p0, p1⟩
  refine (clock_New_ok _ _ c0).mono ?_
  rintro e w' ⟨rfl, rfl⟩
  go_wp2_with fail
  go_loopw [14, 15, 16, 17, 18] (fun tv lv sv nv iv wr => ∃ (T last : Int) (is learned : Bool) (c : CK) (i : Nat), tv = .int .i64 T ∧ lv = .int .i64 last ∧ sv = .bool is ∧ nv = .bool learned ∧ iv = .int .i64 i ∧ LInv n3 T i ∧ HInv a2 a1 a0 T c is learned last ∧ ClockAt wr (w3.heap.size + 1) 139 c ∧ Below w.heap.size w wr)
    (fun _ _ _ _ iv _ => n3 - (intOf iv).toNat)
  case atStart => exact ⟨0, 0, false, false, ⟨a0, 0, false, 0, 0, 0, false, 0⟩, 0, rfl, rfl, rfl, rfl, rfl, ⟨by omega, by omega, by omega⟩, HInv.init p0 p1, (by have h := KH.out (w3.alloc (.cells #[.int .i64 1004, .int .i64 1008] 41)) a0; simpa using h), (HB3.out.alloc (by omega) _).alloc (by simp; omega) _⟩
  case round =>
    obtain ⟨T, last, is, learned, c, i, rfl, rfl, rfl, rfl, rfl, hI, hH, hK, hB⟩ := hrel
    obtain ⟨j1, j2, j3⟩ := hI
    have T0 := hH.t0
    have OK := Lib.hid hH.ok
    have HH := Lib.hid hH
    have HK := Lib.hid hK
    have HB := Lib.hid hB
    have hzw := hB.size
    have glt := Blk.lt hK
    clear hH hK hB
    obtain ⟨fb1, fb2, fb3⟩ := fl_bd (t := T) T0 (by omega) p0 p1 r1 r2
    have fb4 : shw a1 T ≤ 200000000 := by unfold shw; omega
    by_cases d1 : i < n3
    · by_cases d2 : i < 60
      · have d3 : decide ((i : Int) < 60) = true := by simp; omega
        have d4 : decide ((i : Int) < (n3 : Int)) = true := by simp; omega
        obtain ⟨b, off, rfl, hb, hc⟩ := L5.out (by omega)
        obtain ⟨row, hrow⟩ : ∃ row, z3[i]? = some row := ⟨_, List.getElem?_eq_getElem (by rw [L1.out]; omega)⟩
        have hok : RInts.ok w row := L4.out row (List.mem_of_getElem? hrow)
        have hcell : w.cell? ⟨b, off + i, none⟩ = some (.slice row.A row.n row.c) := by
          have := hc i row hrow 0 _ rfl
          simpa using this
        have hcr : wr.cell? ⟨b, off + i, none⟩ = some (.slice row.A row.n row.c) := by rw [HB.out.cell hb]; exact hcell
        have hbr : b < wr.heap.size := by omega
        obtain ⟨A, rn, rc, rz⟩ := row
        obtain ⟨m1, m2, m3, m4, m5⟩ := hok
        dsimp only at m1 m2 m3 m4 m5 hcr
        unfold maxLen at m3
        have M1 := Lib.hid m1
        have M4 := Lib.hid m4
        have M5 := Lib.hid m5
        clear hc hrow hcell m1 m4 m5
        go_wp2_with fail
        obtain ⟨wo, rfl⟩ : ∃ wo : World, wo = wr := ⟨_, rfl⟩
        go_loopw [20] (fun jv w2 => ∃ (j : Nat) (x y z : Int), jv = .int .i64 j ∧ V3 rn j x y z ∧ w2 = wo.alloc (.cells #[.int .i64 x, .int .i64 y, .int .i64 z] 81)) (fun jv _ => 3 - (intOf jv).toNat)
        case atStart => exact ⟨0, 0, 0, 0, rfl, ⟨by omega, by omega, i64_0, i64_0, i64_0⟩, rfl⟩
        case round =>
          obtain ⟨j, x, y, z, rfl, hV, rfl⟩ := hrel
          have v1 := hV.b1
          have v2 := hV.b2
          by_cases e0 : j < rn ∧ j < 3
          · obtain ⟨e1, e2⟩ := e0
            obtain ⟨b', off', rfl, hb', hc'⟩ := M5.out (by omega)
            obtain ⟨u, hu⟩ : ∃ u, rz[j]? = some u := ⟨_, List.getElem?_eq_getElem (by rw [M1.out]; omega)⟩
            have huu : i64B u := M4.out u (List.mem_of_getElem? hu)
            have hcell2 : wo.cell? ⟨b', off' + j, none⟩ = some (.int .i64 u) := by
              rw [HB.out.cell hb']
              have := hc' j u hu 0 _ rfl
              simpa using this
            have hb2 : b' < wo.heap.size := by omega
            have HN := Lib.hid (hV.one e1 e2 huu)
            clear hc' hu hV
            have hj : j = 0 ∨ j = 1 ∨ j = 2 := by omega
            rcases hj with rfl | rfl | rfl
            all_goals
              (try simp only [Nat.add_zero] at hcell2)
              go_wp2_with fail
              go_roundw
              case rel => exact ⟨_, _, _, _, by go_num, HN.out, rfl⟩
              case measure => simp [intOf]
          · have xb := hV.x1
            have yb := hV.y1
            have zb := hV.z1
            clear hV
            unfold i64B at xb yb zb
            have KE := Lib.hid (HK.out.below ((Below.refl _ _).alloc (Nat.le_refl _) (.cells #[.int .i64 x, .int .i64 y, .int .i64 z] 81)) (by omega))
            have BE := Lib.hid (HB.out.alloc hzw (.cells #[.int .i64 x, .int .i64 y, .int .i64 z] 81))
            have hx : (j < rn ∧ 3 ≤ j) ∨ rn ≤ j := by omega
            clear e0
            rcases hx with ⟨e1, e2⟩ | e1
            all_goals
              by_cases g1 : 0 ≤ y
              · by_cases g2 : y ≤ 1000000
                · by_cases g3 : 0 ≤ z
                  · by_cases g4 : z ≤ 1000000
                    · (skip)
                      by_cases x0 : x = 0
                      · subst x0
                        as_aux_lemma =>
                          obtain ⟨t1, t2⟩ := HH.out.step (v := y) (by omega) p0 p1 r1 r2 g1 g2
                          have HH5 := Lib.hid t2
                          clear t2
                          obtain ⟨gb1, gb2, gb3⟩ := fl_bd (t := T + y) (by omega) (by omega) p0 p1 r1 r2
                          go_wp2_with (first | (go_at_call 45; refine (shows_any _ _ _ (by omega) (by omega) (by omega) (by omega)).mono ?_; rintro e w' ⟨rfl, rfl⟩))
                          refine (clock_Step _ _ _ _ KE.out).mono ?_
                          rintro e w5 ⟨rfl, hk5, ht5⟩
                          have HK5 := Lib.hid hk5
                          have hB5 : Below w.heap.size w w5 := BE.out.trans (ht5.below (by omega) (by simp; omega))
                          have hz5 := ht5.size
                          have gl5 := Blk.lt hk5
                          simp at hz5
                          clear hk5 ht5
                          cases learned
                          · (skip)
                            go_wp2_with fail
                            go_roundw
                            case rel => exact ⟨T + y, last, is, false, _, i + 1, rfl, rfl, rfl, rfl, by go_num, ⟨by omega, by omega, by omega⟩, HH5.out, HK5.out, hB5⟩
                            case measure => simp [intOf]; omega
                          · (skip)
                            obtain ⟨l, u, n0, n1, n2⟩ := HH5.out.has rfl (by omega) p0 p1 r1 r2 s0 s1
                            go_wp2_with fail
                            (try (go_at_call 31; refine (clock_Now _ _ _ HK5.out HH5.out.ok).mono ?_; rintro e w6 ⟨rfl, hb6⟩; obtain ⟨hc6, hf6⟩ := bcell hb6; have hz6 := hb6.size; (try simp at hz6); (try have q6_0_0_0 : w.heap.size < w6.heap.size := by omega); (try have q6_0_0_2 : w.heap.size < w6.heap.size + 1 + 1 := by omega); (try have q6_0_0_3 : w.heap.size < w6.heap.size + 1 + 1 + 1 := by omega); (try have q6_0_1_0 : w.heap.size + 1 < w6.heap.size := by omega); (try have q6_0_1_2 : w.heap.size + 1 < w6.heap.size + 1 + 1 := by omega); (try have q6_0_1_3 : w.heap.size + 1 < w6.heap.size + 1 + 1 + 1 := by omega); (try have q6_0_2_0 : w.heap.size + 1 + 1 < w6.heap.size := by omega); (try have q6_0_2_2 : w.heap.size + 1 + 1 < w6.heap.size + 1 + 1 := by omega); (try have q6_0_2_3 : w.heap.size + 1 + 1 < w6.heap.size + 1 + 1 + 1 := by omega); (try have q6_0_3_0 : w.heap.size + 1 + 1 + 1 < w6.heap.size := by omega); (try have q6_0_3_2 : w.heap.size + 1 + 1 + 1 < w6.heap.size + 1 + 1 := by omega); (try have q6_0_3_3 : w.heap.size + 1 + 1 + 1 < w6.heap.size + 1 + 1 + 1 := by omega); (try have q6_1_0_0 : w1.heap.size < w6.heap.size := by omega); (try have q6_1_0_2 : w1.heap.size < w6.heap.size + 1 + 1 := by omega); (try have q6_1_1_0 : w1.heap.size + 1 < w6.heap.size := by omega); (try have q6_1_1_2 : w1.heap.size + 1 < w6.heap.size + 1 + 1 := by omega); (try have q6_2_0_0 : w2.heap.size < w6.heap.size := by omega); (try have q6_2_0_2 : w2.heap.size < w6.heap.size + 1 + 1 := by omega); (try have q6_2_1_0 : w2.heap.size + 1 < w6.heap.size := by omega); (try have q6_2_1_2 : w2.heap.size + 1 < w6.heap.size + 1 + 1 := by omega); (try have q6_3_0_0 : w3.heap.size < w6.heap.size := by omega); (try have q6_3_0_2 : w3.heap.size < w6.heap.size + 1 + 1 := by omega); (try have q6_3_1_0 : w3.heap.size + 1 < w6.heap.size := by omega); (try have q6_3_1_2 : w3.heap.size + 1 < w6.heap.size + 1 + 1 := by omega); (try have q6_4_0_0 : w4.heap.size < w6.heap.size := by omega); (try have q6_4_0_2 : w4.heap.size < w6.heap.size + 1 + 1 := by omega); (try have q6_4_1_0 : w4.heap.size + 1 < w6.heap.size := by omega); (try have q6_4_1_2 : w4.heap.size + 1 < w6.heap.size + 1 + 1 := by omega); (try have q6_5_0_0 : w5.heap.size < w6.heap.size := by omega); (try have q6_5_0_2 : w5.heap.size < w6.heap.size + 1 + 1 := by omega); (try have q6_5_1_0 : w5.heap.size + 1 < w6.heap.size := by omega); (try have q6_5_1_2 : w5.heap.size + 1 < w6.heap.size + 1 + 1 := by omega); (try go_wp2_with fail)))
                            (try (go_at_call 35; refine (span_Has _ _ _ _).mono ?_; rintro e w7 ⟨rfl, hb7⟩; obtain ⟨hc7, hf7⟩ := bcell hb7; have hz7 := hb7.size; (try simp at hz7); (try have q7_0_0_0 : w.heap.size < w7.heap.size := by omega); (try have q7_0_0_2 : w.heap.size < w7.heap.size + 1 + 1 := by omega); (try have q7_0_0_3 : w.heap.size < w7.heap.size + 1 + 1 + 1 := by omega); (try have q7_0_1_0 : w.heap.size + 1 < w7.heap.size := by omega); (try have q7_0_1_2 : w.heap.size + 1 < w7.heap.size + 1 + 1 := by omega); (try have q7_0_1_3 : w.heap.size + 1 < w7.heap.size + 1 + 1 + 1 := by omega); (try have q7_0_2_0 : w.heap.size + 1 + 1 < w7.heap.size := by omega); (try have q7_0_2_2 : w.heap.size + 1 + 1 < w7.heap.size + 1 + 1 := by omega); (try have q7_0_2_3 : w.heap.size + 1 + 1 < w7.heap.size + 1 + 1 + 1 := by omega); (try have q7_0_3_0 : w.heap.size + 1 + 1 + 1 < w7.heap.size := by omega); (try have q7_0_3_2 : w.heap.size + 1 + 1 + 1 < w7.heap.size + 1 + 1 := by omega); (try have q7_0_3_3 : w.heap.size + 1 + 1 + 1 < w7.heap.size + 1 + 1 + 1 := by omega); (try have q7_1_0_0 : w1.heap.size < w7.heap.size := by omega); (try have q7_1_0_2 : w1.heap.size < w7.heap.size + 1 + 1 := by omega); (try have q7_1_1_0 : w1.heap.size + 1 < w7.heap.size := by omega); (try have q7_1_1_2 : w1.heap.size + 1 < w7.heap.size + 1 + 1 := by omega); (try have q7_2_0_0 : w2.heap.size < w7.heap.size := by omega); (try have q7_2_0_2 : w2.heap.size < w7.heap.size + 1 + 1 := by omega); (try have q7_2_1_0 : w2.heap.size + 1 < w7.heap.size := by omega); (try have q7_2_1_2 : w2.heap.size + 1 < w7.heap.size + 1 + 1 := by omega); (try have q7_3_0_0 : w3.heap.size < w7.heap.size := by omega); (try have q7_3_0_2 : w3.heap.size < w7.heap.size + 1 + 1 := by omega); (try have q7_3_1_0 : w3.heap.size + 1 < w7.heap.size := by omega); (try have q7_3_1_2 : w3.heap.size + 1 < w7.heap.size + 1 + 1 := by omega); (try have q7_4_0_0 : w4.heap.size < w7.heap.size := by omega); (try have q7_4_0_2 : w4.heap.size < w7.heap.size + 1 + 1 := by omega); (try have q7_4_1_0 : w4.heap.size + 1 < w7.heap.size := by omega); (try have q7_4_1_2 : w4.heap.size + 1 < w7.heap.size + 1 + 1 := by omega); (try have q7_5_0_0 : w5.heap.size < w7.heap.size := by omega); (try have q7_5_0_2 : w5.heap.size < w7.heap.size + 1 + 1 := by omega); (try have q7_5_1_0 : w5.heap.size + 1 < w7.heap.size := by omega); (try have q7_5_1_2 : w5.heap.size + 1 < w7.heap.size + 1 + 1 := by omega); (try have q7_6_0_0 : w6.heap.size < w7.heap.size := by omega); (try have q7_6_0_2 : w6.heap.size < w7.heap.size + 1 + 1 := by omega); (try have q7_6_1_0 : w6.heap.size + 1 < w7.heap.size := by omega); (try have q7_6_1_2 : w6.heap.size + 1 < w7.heap.size + 1 + 1 := by omega); (try go_wp2_with fail)))
                            have hB57 : Below w5.heap.size w5 w7 := (by repeat (first | with_reducible exact Below.refl _ _ | (with_reducible refine Below.alloc ?_ (by first | omega | (simp; done) | (simp; omega)) _) | (with_reducible refine Below.setCell ?_ (by first | omega | (simp; done) | (simp; omega)) _) | (with_reducible refine Below.drew ?_) | (with_reducible refine below_drewN ?_ _) | (exact (by assumption)) | (with_reducible refine bel_step (by assumption) ?_ (by first | omega | (simp; done) | (simp; omega)))))
                            have hB7 := hB5.trans (hB57.mono (by omega))
                            go_roundw
                            case rel => exact ⟨T + y, last, is, true, _, i + 1, rfl, rfl, rfl, rfl, by go_num, ⟨by omega, by omega, by omega⟩, HH5.out, HK5.out.below hB57 gl5, hB7⟩
                            case measure => simp [intOf]; omega
                      by_cases x1 : x = 1
                      · subst x1
                        as_aux_lemma =>
                          obtain ⟨t1, t2⟩ := HH.out.step (v := y) (by omega) p0 p1 r1 r2 g1 g2
                          have HH5 := Lib.hid t2
                          clear t2
                          obtain ⟨gb1, gb2, gb3⟩ := fl_bd (t := T + y) (by omega) (by omega) p0 p1 r1 r2
                          go_wp2_with (first | (go_at_call 45; refine (shows_any _ _ _ (by omega) (by omega) (by omega) (by omega)).mono ?_; rintro e w' ⟨rfl, rfl⟩))
                          refine (clock_Step _ _ _ _ KE.out).mono ?_
                          rintro e w5 ⟨rfl, hk5, ht5⟩
                          have HK5 := Lib.hid hk5
                          have hB5 : Below w.heap.size w w5 := BE.out.trans (ht5.below (by omega) (by simp; omega))
                          have hz5 := ht5.size
                          have gl5 := Blk.lt hk5
                          simp at hz5
                          clear hk5 ht5
                          cases learned
                          · (skip)
                            go_wp2_with fail
                            go_roundw
                            case rel => exact ⟨T + y, last, is, false, _, i + 1, rfl, rfl, rfl, rfl, by go_num, ⟨by omega, by omega, by omega⟩, HH5.out, HK5.out, hB5⟩
                            case measure => simp [intOf]; omega
                          · (skip)
                            obtain ⟨l, u, n0, n1, n2⟩ := HH5.out.has rfl (by omega) p0 p1 r1 r2 s0 s1
                            go_wp2_with fail
                            (try (go_at_call 31; refine (clock_Now _ _ _ HK5.out HH5.out.ok).mono ?_; rintro e w6 ⟨rfl, hb6⟩; obtain ⟨hc6, hf6⟩ := bcell hb6; have hz6 := hb6.size; (try simp at hz6); (try have q6_0_0_0 : w.heap.size < w6.heap.size := by omega); (try have q6_0_0_2 : w.heap.size < w6.heap.size + 1 + 1 := by omega); (try have q6_0_0_3 : w.heap.size < w6.heap.size + 1 + 1 + 1 := by omega); (try have q6_0_1_0 : w.heap.size + 1 < w6.heap.size := by omega); (try have q6_0_1_2 : w.heap.size + 1 < w6.heap.size + 1 + 1 := by omega); (try have q6_0_1_3 : w.heap.size + 1 < w6.heap.size + 1 + 1 + 1 := by omega); (try have q6_0_2_0 : w.heap.size + 1 + 1 < w6.heap.size := by omega); (try have q6_0_2_2 : w.heap.size + 1 + 1 < w6.heap.size + 1 + 1 := by omega); (try have q6_0_2_3 : w.heap.size + 1 + 1 < w6.heap.size + 1 + 1 + 1 := by omega); (try have q6_0_3_0 : w.heap.size + 1 + 1 + 1 < w6.heap.size := by omega); (try have q6_0_3_2 : w.heap.size + 1 + 1 + 1 < w6.heap.size + 1 + 1 := by omega); (try have q6_0_3_3 : w.heap.size + 1 + 1 + 1 < w6.heap.size + 1 + 1 + 1 := by omega); (try have q6_1_0_0 : w1.heap.size < w6.heap.size := by omega); (try have q6_1_0_2 : w1.heap.size < w6.heap.size + 1 + 1 := by omega); (try have q6_1_1_0 : w1.heap.size + 1 < w6.heap.size := by omega); (try have q6_1_1_2 : w1.heap.size + 1 < w6.heap.size + 1 + 1 := by omega); (try have q6_2_0_0 : w2.heap.size < w6.heap.size := by omega); (try have q6_2_0_2 : w2.heap.size < w6.heap.size + 1 + 1 := by omega); (try have q6_2_1_0 : w2.heap.size + 1 < w6.heap.size := by omega); (try have q6_2_1_2 : w2.heap.size + 1 < w6.heap.size + 1 + 1 := by omega); (try have q6_3_0_0 : w3.heap.size < w6.heap.size := by omega); (try have q6_3_0_2 : w3.heap.size < w6.heap.size + 1 + 1 := by omega); (try have q6_3_1_0 : w3.heap.size + 1 < w6.heap.size := by omega); (try have q6_3_1_2 : w3.heap.size + 1 < w6.heap.size + 1 + 1 := by omega); (try have q6_4_0_0 : w4.heap.size < w6.heap.size := by omega); (try have q6_4_0_2 : w4.heap.size < w6.heap.size + 1 + 1 := by omega); (try have q6_4_1_0 : w4.heap.size + 1 < w6.heap.size := by omega); (try have q6_4_1_2 : w4.heap.size + 1 < w6.heap.size + 1 + 1 := by omega); (try have q6_5_0_0 : w5.heap.size < w6.heap.size := by omega); (try have q6_5_0_2 : w5.heap.size < w6.heap.size + 1 + 1 := by omega); (try have q6_5_1_0 : w5.heap.size + 1 < w6.heap.size := by omega); (try have q6_5_1_2 : w5.heap.size + 1 < w6.heap.size + 1 + 1 := by omega); (try go_wp2_with fail)))
                            (try (go_at_call 35; refine (span_Has _ _ _ _).mono ?_; rintro e w7 ⟨rfl, hb7⟩; obtain ⟨hc7, hf7⟩ := bcell hb7; have hz7 := hb7.size; (try simp at hz7); (try have q7_0_0_0 : w.heap.size < w7.heap.size := by omega); (try have q7_0_0_2 : w.heap.size < w7.heap.size + 1 + 1 := by omega); (try have q7_0_0_3 : w.heap.size < w7.heap.size + 1 + 1 + 1 := by omega); (try have q7_0_1_0 : w.heap.size + 1 < w7.heap.size := by omega); (try have q7_0_1_2 : w.heap.size + 1 < w7.heap.size + 1 + 1 := by omega); (try have q7_0_1_3 : w.heap.size + 1 < w7.heap.size + 1 + 1 + 1 := by omega); (try have q7_0_2_0 : w.heap.size + 1 + 1 < w7.heap.size := by omega); (try have q7_0_2_2 : w.heap.size + 1 + 1 < w7.heap.size + 1 + 1 := by omega); (try have q7_0_2_3 : w.heap.size + 1 + 1 < w7.heap.size + 1 + 1 + 1 := by omega); (try have q7_0_3_0 : w.heap.size + 1 + 1 + 1 < w7.heap.size := by omega); (try have q7_0_3_2 : w.heap.size + 1 + 1 + 1 < w7.heap.size + 1 + 1 := by omega); (try have q7_0_3_3 : w.heap.size + 1 + 1 + 1 < w7.heap.size + 1 + 1 + 1 := by omega); (try have q7_1_0_0 : w1.heap.size < w7.heap.size := by omega); (try have q7_1_0_2 : w1.heap.size < w7.heap.size + 1 + 1 := by omega); (try have q7_1_1_0 : w1.heap.size + 1 < w7.heap.size := by omega); (try have q7_1_1_2 : w1.heap.size + 1 < w7.heap.size + 1 + 1 := by omega); (try have q7_2_0_0 : w2.heap.size < w7.heap.size := by omega); (try have q7_2_0_2 : w2.heap.size < w7.heap.size + 1 + 1 := by omega); (try have q7_2_1_0 : w2.heap.size + 1 < w7.heap.size := by omega); (try have q7_2_1_2 : w2.heap.size + 1 < w7.heap.size + 1 + 1 := by omega); (try have q7_3_0_0 : w3.heap.size < w7.heap.size := by omega); (try have q7_3_0_2 : w3.heap.size < w7.heap.size + 1 + 1 := by omega); (try have q7_3_1_0 : w3.heap.size + 1 < w7.heap.size := by omega); (try have q7_3_1_2 : w3.heap.size + 1 < w7.heap.size + 1 + 1 := by omega); (try have q7_4_0_0 : w4.heap.size < w7.heap.size := by omega); (try have q7_4_0_2 : w4.heap.size < w7.heap.size + 1 + 1 := by omega); (try have q7_4_1_0 : w4.heap.size + 1 < w7.heap.size := by omega); (try have q7_4_1_2 : w4.heap.size + 1 < w7.heap.size + 1 + 1 := by omega); (try have q7_5_0_0 : w5.heap.size < w7.heap.size := by omega); (try have q7_5_0_2 : w5.heap.size < w7.heap.size + 1 + 1 := by omega); (try have q7_5_1_0 : w5.heap.size + 1 < w7.heap.size := by omega); (try have q7_5_1_2 : w5.heap.size + 1 < w7.heap.size + 1 + 1 := by omega); (try have q7_6_0_0 : w6.heap.size < w7.heap.size := by omega); (try have q7_6_0_2 : w6.heap.size < w7.heap.size + 1 + 1 := by omega); (try have q7_6_1_0 : w6.heap.size + 1 < w7.heap.size := by omega); (try have q7_6_1_2 : w6.heap.size + 1 < w7.heap.size + 1 + 1 := by omega); (try go_wp2_with fail)))
                            have hB57 : Below w5.heap.size w5 w7 := (by repeat (first | with_reducible exact Below.refl _ _ | (with_reducible refine Below.alloc ?_ (by first | omega | (simp; done) | (simp; omega)) _) | (with_reducible refine Below.setCell ?_ (by first | omega | (simp; done) | (simp; omega)) _) | (with_reducible refine Below.drew ?_) | (with_reducible refine below_drewN ?_ _) | (exact (by assumption)) | (with_reducible refine bel_step (by assumption) ?_ (by first | omega | (simp; done) | (simp; omega)))))
                            have hB7 := hB5.trans (hB57.mono (by omega))
                            go_roundw
                            case rel => exact ⟨T + y, last, is, true, _, i + 1, rfl, rfl, rfl, rfl, by go_num, ⟨by omega, by omega, by omega⟩, HH5.out, HK5.out.below hB57 gl5, hB7⟩
                            case measure => simp [intOf]; omega
                      by_cases x2 : x = 2
                      · subst x2
                        as_aux_lemma =>
                          obtain ⟨t1, t2⟩ := HH.out.learn (v := y) (w := z) (by omega) p0 p1 r1 r2 s0 s1 g1 g2 g3 g4
                          have HH5 := Lib.hid t2
                          clear t2
                          go_wp2_with (first | (go_at_call 45; refine (shows_any _ _ _ (by omega) (by omega) (by omega) (by omega)).mono ?_; rintro e w' ⟨rfl, rfl⟩))
                          refine (clock_Learn _ _ _ _ _ KE.out OK.out).mono ?_
                          rintro e w5 ⟨rfl, hk5, ht5⟩
                          have HK5 := Lib.hid hk5
                          have hB5 : Below w.heap.size w w5 := BE.out.trans (ht5.below (by omega) (by simp; omega))
                          have hz5 := ht5.size
                          have gl5 := Blk.lt hk5
                          simp at hz5
                          clear hk5 ht5
                          obtain ⟨l, u, n0, n1, n2⟩ := HH5.out.has rfl (by omega) p0 p1 r1 r2 s0 s1
                          go_wp2_with fail
                          (try (go_at_call 31; refine (clock_Now _ _ _ HK5.out HH5.out.ok).mono ?_; rintro e w6 ⟨rfl, hb6⟩; obtain ⟨hc6, hf6⟩ := bcell hb6; have hz6 := hb6.size; (try simp at hz6); (try have q6_0_0_0 : w.heap.size < w6.heap.size := by omega); (try have q6_0_0_2 : w.heap.size < w6.heap.size + 1 + 1 := by omega); (try have q6_0_0_3 : w.heap.size < w6.heap.size + 1 + 1 + 1 := by omega); (try have q6_0_1_0 : w.heap.size + 1 < w6.heap.size := by omega); (try have q6_0_1_2 : w.heap.size + 1 < w6.heap.size + 1 + 1 := by omega); (try have q6_0_1_3 : w.heap.size + 1 < w6.heap.size + 1 + 1 + 1 := by omega); (try have q6_0_2_0 : w.heap.size + 1 + 1 < w6.heap.size := by omega); (try have q6_0_2_2 : w.heap.size + 1 + 1 < w6.heap.size + 1 + 1 := by omega); (try have q6_0_2_3 : w.heap.size + 1 + 1 < w6.heap.size + 1 + 1 + 1 := by omega); (try have q6_0_3_0 : w.heap.size + 1 + 1 + 1 < w6.heap.size := by omega); (try have q6_0_3_2 : w.heap.size + 1 + 1 + 1 < w6.heap.size + 1 + 1 := by omega); (try have q6_0_3_3 : w.heap.size + 1 + 1 + 1 < w6.heap.size + 1 + 1 + 1 := by omega); (try have q6_1_0_0 : w1.heap.size < w6.heap.size := by omega); (try have q6_1_0_2 : w1.heap.size < w6.heap.size + 1 + 1 := by omega); (try have q6_1_1_0 : w1.heap.size + 1 < w6.heap.size := by omega); (try have q6_1_1_2 : w1.heap.size + 1 < w6.heap.size + 1 + 1 := by omega); (try have q6_2_0_0 : w2.heap.size < w6.heap.size := by omega); (try have q6_2_0_2 : w2.heap.size < w6.heap.size + 1 + 1 := by omega); (try have q6_2_1_0 : w2.heap.size + 1 < w6.heap.size := by omega); (try have q6_2_1_2 : w2.heap.size + 1 < w6.heap.size + 1 + 1 := by omega); (try have q6_3_0_0 : w3.heap.size < w6.heap.size := by omega); (try have q6_3_0_2 : w3.heap.size < w6.heap.size + 1 + 1 := by omega); (try have q6_3_1_0 : w3.heap.size + 1 < w6.heap.size := by omega); (try have q6_3_1_2 : w3.heap.size + 1 < w6.heap.size + 1 + 1 := by omega); (try have q6_4_0_0 : w4.heap.size < w6.heap.size := by omega); (try have q6_4_0_2 : w4.heap.size < w6.heap.size + 1 + 1 := by omega); (try have q6_4_1_0 : w4.heap.size + 1 < w6.heap.size := by omega); (try have q6_4_1_2 : w4.heap.size + 1 < w6.heap.size + 1 + 1 := by omega); (try have q6_5_0_0 : w5.heap.size < w6.heap.size := by omega); (try have q6_5_0_2 : w5.heap.size < w6.heap.size + 1 + 1 := by omega); (try have q6_5_1_0 : w5.heap.size + 1 < w6.heap.size := by omega); (try have q6_5_1_2 : w5.heap.size + 1 < w6.heap.size + 1 + 1 := by omega); (try go_wp2_with fail)))
                          (try (go_at_call 35; refine (span_Has _ _ _ _).mono ?_; rintro e w7 ⟨rfl, hb7⟩; obtain ⟨hc7, hf7⟩ := bcell hb7; have hz7 := hb7.size; (try simp at hz7); (try have q7_0_0_0 : w.heap.size < w7.heap.size := by omega); (try have q7_0_0_2 : w.heap.size < w7.heap.size + 1 + 1 := by omega); (try have q7_0_0_3 : w.heap.size < w7.heap.size + 1 + 1 + 1 := by omega); (try have q7_0_1_0 : w.heap.size + 1 < w7.heap.size := by omega); (try have q7_0_1_2 : w.heap.size + 1 < w7.heap.size + 1 + 1 := by omega); (try have q7_0_1_3 : w.heap.size + 1 < w7.heap.size + 1 + 1 + 1 := by omega); (try have q7_0_2_0 : w.heap.size + 1 + 1 < w7.heap.size := by omega); (try have q7_0_2_2 : w.heap.size + 1 + 1 < w7.heap.size + 1 + 1 := by omega); (try have q7_0_2_3 : w.heap.size + 1 + 1 < w7.heap.size + 1 + 1 + 1 := by omega); (try have q7_0_3_0 : w.heap.size + 1 + 1 + 1 < w7.heap.size := by omega); (try have q7_0_3_2 : w.heap.size + 1 + 1 + 1 < w7.heap.size + 1 + 1 := by omega); (try have q7_0_3_3 : w.heap.size + 1 + 1 + 1 < w7.heap.size + 1 + 1 + 1 := by omega); (try have q7_1_0_0 : w1.heap.size < w7.heap.size := by omega); (try have q7_1_0_2 : w1.heap.size < w7.heap.size + 1 + 1 := by omega); (try have q7_1_1_0 : w1.heap.size + 1 < w7.heap.size := by omega); (try have q7_1_1_2 : w1.heap.size + 1 < w7.heap.size + 1 + 1 := by omega); (try have q7_2_0_0 : w2.heap.size < w7.heap.size := by omega); (try have q7_2_0_2 : w2.heap.size < w7.heap.size + 1 + 1 := by omega); (try have q7_2_1_0 : w2.heap.size + 1 < w7.heap.size := by omega); (try have q7_2_1_2 : w2.heap.size + 1 < w7.heap.size + 1 + 1 := by omega); (try have q7_3_0_0 : w3.heap.size < w7.heap.size := by omega); (try have q7_3_0_2 : w3.heap.size < w7.heap.size + 1 + 1 := by omega); (try have q7_3_1_0 : w3.heap.size + 1 < w7.heap.size := by omega); (try have q7_3_1_2 : w3.heap.size + 1 < w7.heap.size + 1 + 1 := by omega); (try have q7_4_0_0 : w4.heap.size < w7.heap.size := by omega); (try have q7_4_0_2 : w4.heap.size < w7.heap.size + 1 + 1 := by omega); (try have q7_4_1_0 : w4.heap.size + 1 < w7.heap.size := by omega); (try have q7_4_1_2 : w4.heap.size + 1 < w7.heap.size + 1 + 1 := by omega); (try have q7_5_0_0 : w5.heap.size < w7.heap.size := by omega); (try have q7_5_0_2 : w5.heap.size < w7.heap.size + 1 + 1 := by omega); (try have q7_5_1_0 : w5.heap.size + 1 < w7.heap.size := by omega); (try have q7_5_1_2 : w5.heap.size + 1 < w7.heap.size + 1 + 1 := by omega); (try have q7_6_0_0 : w6.heap.size < w7.heap.size := by omega); (try have q7_6_0_2 : w6.heap.size < w7.heap.size + 1 + 1 := by omega); (try have q7_6_1_0 : w6.heap.size + 1 < w7.heap.size := by omega); (try have q7_6_1_2 : w6.heap.size + 1 < w7.heap.size + 1 + 1 := by omega); (try go_wp2_with fail)))
                          have hB57 : Below w5.heap.size w5 w7 := (by repeat (first | with_reducible exact Below.refl _ _ | (with_reducible refine Below.alloc ?_ (by first | omega | (simp; done) | (simp; omega)) _) | (with_reducible refine Below.setCell ?_ (by first | omega | (simp; done) | (simp; omega)) _) | (with_reducible refine Below.drew ?_) | (with_reducible refine below_drewN ?_ _) | (exact (by assumption)) | (with_reducible refine bel_step (by assumption) ?_ (by first | omega | (simp; done) | (simp; omega)))))
                          have hB7 := hB5.trans (hB57.mono (by omega))
                          go_roundw
                          case rel => exact ⟨T, last, is, true, _, i + 1, rfl, rfl, rfl, rfl, by go_num, ⟨by omega, by omega, by omega⟩, HH5.out, HK5.out.below hB57 gl5, hB7⟩
                          case measure => simp [intOf]; omega
                      rcases HH.out.point (by omega) p0 p1 r1 r2 s0 s1 with ⟨rfl, t1, t2⟩ | ⟨rfl, t1, t2⟩ | ⟨rfl, t1, t2, t3⟩
                      · (skip)
                        as_aux_lemma =>
                          have T2 := Lib.hid t2
                          clear t2
                          go_wp2_with (first | (go_at_call 45; refine (shows_any _ _ _ (by omega) (by omega) (by omega) (by omega)).mono ?_; rintro e w' ⟨rfl, rfl⟩))
                          refine (clock_Point _ _ _ KE.out OK.out).mono ?_
                          rintro e w5 ⟨rfl, hk5, ht5⟩
                          rw [T2.out] at hk5
                          have HK5 := Lib.hid hk5
                          have hB5 : Below w.heap.size w w5 := BE.out.trans (ht5.below (by omega) (by simp; omega))
                          have hz5 := ht5.size
                          have gl5 := Blk.lt hk5
                          simp at hz5
                          clear hk5 ht5
                          go_wp2_with fail
                          (try (go_at_call 16; refine (Error_n 6 _ (by omega) _ (HG.out.below (by repeat (first | with_reducible exact Below.refl _ _ | (with_reducible refine Below.alloc ?_ (by first | omega | (simp; done) | (simp; omega)) _) | (with_reducible refine Below.setCell ?_ (by first | omega | (simp; done) | (simp; omega)) _) | (with_reducible refine Below.drew ?_) | (with_reducible refine below_drewN ?_ _) | (exact (by assumption)) | (with_reducible refine bel_step (by assumption) ?_ (by first | omega | (simp; done) | (simp; omega))))))).mono ?_; rintro e w6 ⟨rfl, hb6⟩; obtain ⟨hc6, hf6⟩ := bcell hb6; have hz6 := hb6.size; (try simp at hz6); (try have q6_0_0_0 : w.heap.size < w6.heap.size := by omega); (try have q6_0_0_2 : w.heap.size < w6.heap.size + 1 + 1 := by omega); (try have q6_0_0_3 : w.heap.size < w6.heap.size + 1 + 1 + 1 := by omega); (try have q6_0_1_0 : w.heap.size + 1 < w6.heap.size := by omega); (try have q6_0_1_2 : w.heap.size + 1 < w6.heap.size + 1 + 1 := by omega); (try have q6_0_1_3 : w.heap.size + 1 < w6.heap.size + 1 + 1 + 1 := by omega); (try have q6_0_2_0 : w.heap.size + 1 + 1 < w6.heap.size := by omega); (try have q6_0_2_2 : w.heap.size + 1 + 1 < w6.heap.size + 1 + 1 := by omega); (try have q6_0_2_3 : w.heap.size + 1 + 1 < w6.heap.size + 1 + 1 + 1 := by omega); (try have q6_0_3_0 : w.heap.size + 1 + 1 + 1 < w6.heap.size := by omega); (try have q6_0_3_2 : w.heap.size + 1 + 1 + 1 < w6.heap.size + 1 + 1 := by omega); (try have q6_0_3_3 : w.heap.size + 1 + 1 + 1 < w6.heap.size + 1 + 1 + 1 := by omega); (try have q6_1_0_0 : w1.heap.size < w6.heap.size := by omega); (try have q6_1_0_2 : w1.heap.size < w6.heap.size + 1 + 1 := by omega); (try have q6_1_1_0 : w1.heap.size + 1 < w6.heap.size := by omega); (try have q6_1_1_2 : w1.heap.size + 1 < w6.heap.size + 1 + 1 := by omega); (try have q6_2_0_0 : w2.heap.size < w6.heap.size := by omega); (try have q6_2_0_2 : w2.heap.size < w6.heap.size + 1 + 1 := by omega); (try have q6_2_1_0 : w2.heap.size + 1 < w6.heap.size := by omega); (try have q6_2_1_2 : w2.heap.size + 1 < w6.heap.size + 1 + 1 := by omega); (try have q6_3_0_0 : w3.heap.size < w6.heap.size := by omega); (try have q6_3_0_2 : w3.heap.size < w6.heap.size + 1 + 1 := by omega); (try have q6_3_1_0 : w3.heap.size + 1 < w6.heap.size := by omega); (try have q6_3_1_2 : w3.heap.size + 1 < w6.heap.size + 1 + 1 := by omega); (try have q6_4_0_0 : w4.heap.size < w6.heap.size := by omega); (try have q6_4_0_2 : w4.heap.size < w6.heap.size + 1 + 1 := by omega); (try have q6_4_1_0 : w4.heap.size + 1 < w6.heap.size := by omega); (try have q6_4_1_2 : w4.heap.size + 1 < w6.heap.size + 1 + 1 := by omega); (try have q6_5_0_0 : w5.heap.size < w6.heap.size := by omega); (try have q6_5_0_2 : w5.heap.size < w6.heap.size + 1 + 1 := by omega); (try have q6_5_1_0 : w5.heap.size + 1 < w6.heap.size := by omega); (try have q6_5_1_2 : w5.heap.size + 1 < w6.heap.size + 1 + 1 := by omega); (try go_wp2_with fail)))
                          have hB56 : Below w5.heap.size w5 w6 := (by repeat (first | with_reducible exact Below.refl _ _ | (with_reducible refine Below.alloc ?_ (by first | omega | (simp; done) | (simp; omega)) _) | (with_reducible refine Below.setCell ?_ (by first | omega | (simp; done) | (simp; omega)) _) | (with_reducible refine Below.drew ?_) | (with_reducible refine below_drewN ?_ _) | (exact (by assumption)) | (with_reducible refine bel_step (by assumption) ?_ (by first | omega | (simp; done) | (simp; omega)))))
                          have hB6 := hB5.trans (hB56.mono (by omega))
                          go_roundw
                          case rel => exact ⟨T, last, is, false, c, i + 1, rfl, rfl, rfl, rfl, by go_num, ⟨by omega, by omega, by omega⟩, HH.out, HK5.out.below hB56 gl5, hB6⟩
                          case measure => simp [intOf]; omega
                      · (skip)
                        as_aux_lemma =>
                          have T2 := Lib.hid t2
                          clear t2
                          go_wp2_with (first | (go_at_call 45; refine (shows_any _ _ _ (by omega) (by omega) (by omega) (by omega)).mono ?_; rintro e w' ⟨rfl, rfl⟩))
                          refine (clock_Point _ _ _ KE.out OK.out).mono ?_
                          rintro e w5 ⟨rfl, hk5, ht5⟩
                          rw [T2.out] at hk5
                          have HK5 := Lib.hid hk5
                          have hB5 : Below w.heap.size w w5 := BE.out.trans (ht5.below (by omega) (by simp; omega))
                          have hz5 := ht5.size
                          have gl5 := Blk.lt hk5
                          simp at hz5
                          clear hk5 ht5
                          go_wp2_with fail
                          (try (go_at_call 16; refine (Error_n 8 _ (by omega) _ (HG.out.below (by repeat (first | with_reducible exact Below.refl _ _ | (with_reducible refine Below.alloc ?_ (by first | omega | (simp; done) | (simp; omega)) _) | (with_reducible refine Below.setCell ?_ (by first | omega | (simp; done) | (simp; omega)) _) | (with_reducible refine Below.drew ?_) | (with_reducible refine below_drewN ?_ _) | (exact (by assumption)) | (with_reducible refine bel_step (by assumption) ?_ (by first | omega | (simp; done) | (simp; omega))))))).mono ?_; rintro e w6 ⟨rfl, hb6⟩; obtain ⟨hc6, hf6⟩ := bcell hb6; have hz6 := hb6.size; (try simp at hz6); (try have q6_0_0_0 : w.heap.size < w6.heap.size := by omega); (try have q6_0_0_2 : w.heap.size < w6.heap.size + 1 + 1 := by omega); (try have q6_0_0_3 : w.heap.size < w6.heap.size + 1 + 1 + 1 := by omega); (try have q6_0_1_0 : w.heap.size + 1 < w6.heap.size := by omega); (try have q6_0_1_2 : w.heap.size + 1 < w6.heap.size + 1 + 1 := by omega); (try have q6_0_1_3 : w.heap.size + 1 < w6.heap.size + 1 + 1 + 1 := by omega); (try have q6_0_2_0 : w.heap.size + 1 + 1 < w6.heap.size := by omega); (try have q6_0_2_2 : w.heap.size + 1 + 1 < w6.heap.size + 1 + 1 := by omega); (try have q6_0_2_3 : w.heap.size + 1 + 1 < w6.heap.size + 1 + 1 + 1 := by omega); (try have q6_0_3_0 : w.heap.size + 1 + 1 + 1 < w6.heap.size := by omega); (try have q6_0_3_2 : w.heap.size + 1 + 1 + 1 < w6.heap.size + 1 + 1 := by omega); (try have q6_0_3_3 : w.heap.size + 1 + 1 + 1 < w6.heap.size + 1 + 1 + 1 := by omega); (try have q6_1_0_0 : w1.heap.size < w6.heap.size := by omega); (try have q6_1_0_2 : w1.heap.size < w6.heap.size + 1 + 1 := by omega); (try have q6_1_1_0 : w1.heap.size + 1 < w6.heap.size := by omega); (try have q6_1_1_2 : w1.heap.size + 1 < w6.heap.size + 1 + 1 := by omega); (try have q6_2_0_0 : w2.heap.size < w6.heap.size := by omega); (try have q6_2_0_2 : w2.heap.size < w6.heap.size + 1 + 1 := by omega); (try have q6_2_1_0 : w2.heap.size + 1 < w6.heap.size := by omega); (try have q6_2_1_2 : w2.heap.size + 1 < w6.heap.size + 1 + 1 := by omega); (try have q6_3_0_0 : w3.heap.size < w6.heap.size := by omega); (try have q6_3_0_2 : w3.heap.size < w6.heap.size + 1 + 1 := by omega); (try have q6_3_1_0 : w3.heap.size + 1 < w6.heap.size := by omega); (try have q6_3_1_2 : w3.heap.size + 1 < w6.heap.size + 1 + 1 := by omega); (try have q6_4_0_0 : w4.heap.size < w6.heap.size := by omega); (try have q6_4_0_2 : w4.heap.size < w6.heap.size + 1 + 1 := by omega); (try have q6_4_1_0 : w4.heap.size + 1 < w6.heap.size := by omega); (try have q6_4_1_2 : w4.heap.size + 1 < w6.heap.size + 1 + 1 := by omega); (try have q6_5_0_0 : w5.heap.size < w6.heap.size := by omega); (try have q6_5_0_2 : w5.heap.size < w6.heap.size + 1 + 1 := by omega); (try have q6_5_1_0 : w5.heap.size + 1 < w6.heap.size := by omega); (try have q6_5_1_2 : w5.heap.size + 1 < w6.heap.size + 1 + 1 := by omega); (try go_wp2_with fail)))
                          have hB56 : Below w5.heap.size w5 w6 := (by repeat (first | with_reducible exact Below.refl _ _ | (with_reducible refine Below.alloc ?_ (by first | omega | (simp; done) | (simp; omega)) _) | (with_reducible refine Below.setCell ?_ (by first | omega | (simp; done) | (simp; omega)) _) | (with_reducible refine Below.drew ?_) | (with_reducible refine below_drewN ?_ _) | (exact (by assumption)) | (with_reducible refine bel_step (by assumption) ?_ (by first | omega | (simp; done) | (simp; omega)))))
                          have hB6 := hB5.trans (hB56.mono (by omega))
                          go_roundw
                          case rel => exact ⟨T, last, is, true, c, i + 1, rfl, rfl, rfl, rfl, by go_num, ⟨by omega, by omega, by omega⟩, HH.out, HK5.out.below hB56 gl5, hB6⟩
                          case measure => simp [intOf]; omega
                      · (skip)
                        have HH5 := Lib.hid t3
                        clear t3
                        cases is
                        · (skip)
                          as_aux_lemma =>
                            clear t2
                            go_wp2_with (first | (go_at_call 45; refine (shows_any _ _ _ (by omega) (by omega) (by omega) (by omega)).mono ?_; rintro e w' ⟨rfl, rfl⟩))
                            refine (clock_Point _ _ _ KE.out OK.out).mono ?_
                            rintro e w5 ⟨rfl, hk5, ht5⟩
                            have HK5 := Lib.hid hk5
                            have hB5 : Below w.heap.size w w5 := BE.out.trans (ht5.below (by omega) (by simp; omega))
                            have hz5 := ht5.size
                            have gl5 := Blk.lt hk5
                            simp at hz5
                            clear hk5 ht5
                            obtain ⟨l, u, n0, n1, n2⟩ := HH5.out.has rfl (by omega) p0 p1 r1 r2 s0 s1
                            go_wp2_with fail
                            (try (go_at_call 31; refine (clock_Now _ _ _ HK5.out HH5.out.ok).mono ?_; rintro e w6 ⟨rfl, hb6⟩; obtain ⟨hc6, hf6⟩ := bcell hb6; have hz6 := hb6.size; (try simp at hz6); (try have q6_0_0_0 : w.heap.size < w6.heap.size := by omega); (try have q6_0_0_2 : w.heap.size < w6.heap.size + 1 + 1 := by omega); (try have q6_0_0_3 : w.heap.size < w6.heap.size + 1 + 1 + 1 := by omega); (try have q6_0_1_0 : w.heap.size + 1 < w6.heap.size := by omega); (try have q6_0_1_2 : w.heap.size + 1 < w6.heap.size + 1 + 1 := by omega); (try have q6_0_1_3 : w.heap.size + 1 < w6.heap.size + 1 + 1 + 1 := by omega); (try have q6_0_2_0 : w.heap.size + 1 + 1 < w6.heap.size := by omega); (try have q6_0_2_2 : w.heap.size + 1 + 1 < w6.heap.size + 1 + 1 := by omega); (try have q6_0_2_3 : w.heap.size + 1 + 1 < w6.heap.size + 1 + 1 + 1 := by omega); (try have q6_0_3_0 : w.heap.size + 1 + 1 + 1 < w6.heap.size := by omega); (try have q6_0_3_2 : w.heap.size + 1 + 1 + 1 < w6.heap.size + 1 + 1 := by omega); (try have q6_0_3_3 : w.heap.size + 1 + 1 + 1 < w6.heap.size + 1 + 1 + 1 := by omega); (try have q6_1_0_0 : w1.heap.size < w6.heap.size := by omega); (try have q6_1_0_2 : w1.heap.size < w6.heap.size + 1 + 1 := by omega); (try have q6_1_1_0 : w1.heap.size + 1 < w6.heap.size := by omega); (try have q6_1_1_2 : w1.heap.size + 1 < w6.heap.size + 1 + 1 := by omega); (try have q6_2_0_0 : w2.heap.size < w6.heap.size := by omega); (try have q6_2_0_2 : w2.heap.size < w6.heap.size + 1 + 1 := by omega); (try have q6_2_1_0 : w2.heap.size + 1 < w6.heap.size := by omega); (try have q6_2_1_2 : w2.heap.size + 1 < w6.heap.size + 1 + 1 := by omega); (try have q6_3_0_0 : w3.heap.size < w6.heap.size := by omega); (try have q6_3_0_2 : w3.heap.size < w6.heap.size + 1 + 1 := by omega); (try have q6_3_1_0 : w3.heap.size + 1 < w6.heap.size := by omega); (try have q6_3_1_2 : w3.heap.size + 1 < w6.heap.size + 1 + 1 := by omega); (try have q6_4_0_0 : w4.heap.size < w6.heap.size := by omega); (try have q6_4_0_2 : w4.heap.size < w6.heap.size + 1 + 1 := by omega); (try have q6_4_1_0 : w4.heap.size + 1 < w6.heap.size := by omega); (try have q6_4_1_2 : w4.heap.size + 1 < w6.heap.size + 1 + 1 := by omega); (try have q6_5_0_0 : w5.heap.size < w6.heap.size := by omega); (try have q6_5_0_2 : w5.heap.size < w6.heap.size + 1 + 1 := by omega); (try have q6_5_1_0 : w5.heap.size + 1 < w6.heap.size := by omega); (try have q6_5_1_2 : w5.heap.size + 1 < w6.heap.size + 1 + 1 := by omega); (try go_wp2_with fail)))
                            (try (go_at_call 35; refine (span_Has _ _ _ _).mono ?_; rintro e w7 ⟨rfl, hb7⟩; obtain ⟨hc7, hf7⟩ := bcell hb7; have hz7 := hb7.size; (try simp at hz7); (try have q7_0_0_0 : w.heap.size < w7.heap.size := by omega); (try have q7_0_0_2 : w.heap.size < w7.heap.size + 1 + 1 := by omega); (try have q7_0_0_3 : w.heap.size < w7.heap.size + 1 + 1 + 1 := by omega); (try have q7_0_1_0 : w.heap.size + 1 < w7.heap.size := by omega); (try have q7_0_1_2 : w.heap.size + 1 < w7.heap.size + 1 + 1 := by omega); (try have q7_0_1_3 : w.heap.size + 1 < w7.heap.size + 1 + 1 + 1 := by omega); (try have q7_0_2_0 : w.heap.size + 1 + 1 < w7.heap.size := by omega); (try have q7_0_2_2 : w.heap.size + 1 + 1 < w7.heap.size + 1 + 1 := by omega); (try have q7_0_2_3 : w.heap.size + 1 + 1 < w7.heap.size + 1 + 1 + 1 := by omega); (try have q7_0_3_0 : w.heap.size + 1 + 1 + 1 < w7.heap.size := by omega); (try have q7_0_3_2 : w.heap.size + 1 + 1 + 1 < w7.heap.size + 1 + 1 := by omega); (try have q7_0_3_3 : w.heap.size + 1 + 1 + 1 < w7.heap.size + 1 + 1 + 1 := by omega); (try have q7_1_0_0 : w1.heap.size < w7.heap.size := by omega); (try have q7_1_0_2 : w1.heap.size < w7.heap.size + 1 + 1 := by omega); (try have q7_1_1_0 : w1.heap.size + 1 < w7.heap.size := by omega); (try have q7_1_1_2 : w1.heap.size + 1 < w7.heap.size + 1 + 1 := by omega); (try have q7_2_0_0 : w2.heap.size < w7.heap.size := by omega); (try have q7_2_0_2 : w2.heap.size < w7.heap.size + 1 + 1 := by omega); (try have q7_2_1_0 : w2.heap.size + 1 < w7.heap.size := by omega); (try have q7_2_1_2 : w2.heap.size + 1 < w7.heap.size + 1 + 1 := by omega); (try have q7_3_0_0 : w3.heap.size < w7.heap.size := by omega); (try have q7_3_0_2 : w3.heap.size < w7.heap.size + 1 + 1 := by omega); (try have q7_3_1_0 : w3.heap.size + 1 < w7.heap.size := by omega); (try have q7_3_1_2 : w3.heap.size + 1 < w7.heap.size + 1 + 1 := by omega); (try have q7_4_0_0 : w4.heap.size < w7.heap.size := by omega); (try have q7_4_0_2 : w4.heap.size < w7.heap.size + 1 + 1 := by omega); (try have q7_4_1_0 : w4.heap.size + 1 < w7.heap.size := by omega); (try have q7_4_1_2 : w4.heap.size + 1 < w7.heap.size + 1 + 1 := by omega); (try have q7_5_0_0 : w5.heap.size < w7.heap.size := by omega); (try have q7_5_0_2 : w5.heap.size < w7.heap.size + 1 + 1 := by omega); (try have q7_5_1_0 : w5.heap.size + 1 < w7.heap.size := by omega); (try have q7_5_1_2 : w5.heap.size + 1 < w7.heap.size + 1 + 1 := by omega); (try have q7_6_0_0 : w6.heap.size < w7.heap.size := by omega); (try have q7_6_0_2 : w6.heap.size < w7.heap.size + 1 + 1 := by omega); (try have q7_6_1_0 : w6.heap.size + 1 < w7.heap.size := by omega); (try have q7_6_1_2 : w6.heap.size + 1 < w7.heap.size + 1 + 1 := by omega); (try go_wp2_with fail)))
                            have hB57 : Below w5.heap.size w5 w7 := (by repeat (first | with_reducible exact Below.refl _ _ | (with_reducible refine Below.alloc ?_ (by first | omega | (simp; done) | (simp; omega)) _) | (with_reducible refine Below.setCell ?_ (by first | omega | (simp; done) | (simp; omega)) _) | (with_reducible refine Below.drew ?_) | (with_reducible refine below_drewN ?_ _) | (exact (by assumption)) | (with_reducible refine bel_step (by assumption) ?_ (by first | omega | (simp; done) | (simp; omega)))))
                            have hB7 := hB5.trans (hB57.mono (by omega))
                            go_roundw
                            case rel => exact ⟨T, _, true, true, _, i + 1, rfl, rfl, rfl, rfl, by go_num, ⟨by omega, by omega, by omega⟩, HH5.out, HK5.out.below hB57 gl5, hB7⟩
                            case measure => simp [intOf]; omega
                        · (skip)
                          as_aux_lemma =>
                            have t2 := t2 rfl
                            go_wp2_with (first | (go_at_call 45; refine (shows_any _ _ _ (by omega) (by omega) (by omega) (by omega)).mono ?_; rintro e w' ⟨rfl, rfl⟩))
                            refine (clock_Point _ _ _ KE.out OK.out).mono ?_
                            rintro e w5 ⟨rfl, hk5, ht5⟩
                            have HK5 := Lib.hid hk5
                            have hB5 : Below w.heap.size w w5 := BE.out.trans (ht5.below (by omega) (by simp; omega))
                            have hz5 := ht5.size
                            have gl5 := Blk.lt hk5
                            simp at hz5
                            clear hk5 ht5
                            obtain ⟨l, u, n0, n1, n2⟩ := HH5.out.has rfl (by omega) p0 p1 r1 r2 s0 s1
                            go_wp2_with fail
                            (try (go_at_call 31; refine (clock_Now _ _ _ HK5.out HH5.out.ok).mono ?_; rintro e w6 ⟨rfl, hb6⟩; obtain ⟨hc6, hf6⟩ := bcell hb6; have hz6 := hb6.size; (try simp at hz6); (try have q6_0_0_0 : w.heap.size < w6.heap.size := by omega); (try have q6_0_0_2 : w.heap.size < w6.heap.size + 1 + 1 := by omega); (try have q6_0_0_3 : w.heap.size < w6.heap.size + 1 + 1 + 1 := by omega); (try have q6_0_1_0 : w.heap.size + 1 < w6.heap.size := by omega); (try have q6_0_1_2 : w.heap.size + 1 < w6.heap.size + 1 + 1 := by omega); (try have q6_0_1_3 : w.heap.size + 1 < w6.heap.size + 1 + 1 + 1 := by omega); (try have q6_0_2_0 : w.heap.size + 1 + 1 < w6.heap.size := by omega); (try have q6_0_2_2 : w.heap.size + 1 + 1 < w6.heap.size + 1 + 1 := by omega); (try have q6_0_2_3 : w.heap.size + 1 + 1 < w6.heap.size + 1 + 1 + 1 := by omega); (try have q6_0_3_0 : w.heap.size + 1 + 1 + 1 < w6.heap.size := by omega); (try have q6_0_3_2 : w.heap.size + 1 + 1 + 1 < w6.heap.size + 1 + 1 := by omega); (try have q6_0_3_3 : w.heap.size + 1 + 1 + 1 < w6.heap.size + 1 + 1 + 1 := by omega); (try have q6_1_0_0 : w1.heap.size < w6.heap.size := by omega); (try have q6_1_0_2 : w1.heap.size < w6.heap.size + 1 + 1 := by omega); (try have q6_1_1_0 : w1.heap.size + 1 < w6.heap.size := by omega); (try have q6_1_1_2 : w1.heap.size + 1 < w6.heap.size + 1 + 1 := by omega); (try have q6_2_0_0 : w2.heap.size < w6.heap.size := by omega); (try have q6_2_0_2 : w2.heap.size < w6.heap.size + 1 + 1 := by omega); (try have q6_2_1_0 : w2.heap.size + 1 < w6.heap.size := by omega); (try have q6_2_1_2 : w2.heap.size + 1 < w6.heap.size + 1 + 1 := by omega); (try have q6_3_0_0 : w3.heap.size < w6.heap.size := by omega); (try have q6_3_0_2 : w3.heap.size < w6.heap.size + 1 + 1 := by omega); (try have q6_3_1_0 : w3.heap.size + 1 < w6.heap.size := by omega); (try have q6_3_1_2 : w3.heap.size + 1 < w6.heap.size + 1 + 1 := by omega); (try have q6_4_0_0 : w4.heap.size < w6.heap.size := by omega); (try have q6_4_0_2 : w4.heap.size < w6.heap.size + 1 + 1 := by omega); (try have q6_4_1_0 : w4.heap.size + 1 < w6.heap.size := by omega); (try have q6_4_1_2 : w4.heap.size + 1 < w6.heap.size + 1 + 1 := by omega); (try have q6_5_0_0 : w5.heap.size < w6.heap.size := by omega); (try have q6_5_0_2 : w5.heap.size < w6.heap.size + 1 + 1 := by omega); (try have q6_5_1_0 : w5.heap.size + 1 < w6.heap.size := by omega); (try have q6_5_1_2 : w5.heap.size + 1 < w6.heap.size + 1 + 1 := by omega); (try go_wp2_with fail)))
                            (try (go_at_call 35; refine (span_Has _ _ _ _).mono ?_; rintro e w7 ⟨rfl, hb7⟩; obtain ⟨hc7, hf7⟩ := bcell hb7; have hz7 := hb7.size; (try simp at hz7); (try have q7_0_0_0 : w.heap.size < w7.heap.size := by omega); (try have q7_0_0_2 : w.heap.size < w7.heap.size + 1 + 1 := by omega); (try have q7_0_0_3 : w.heap.size < w7.heap.size + 1 + 1 + 1 := by omega); (try have q7_0_1_0 : w.heap.size + 1 < w7.heap.size := by omega); (try have q7_0_1_2 : w.heap.size + 1 < w7.heap.size + 1 + 1 := by omega); (try have q7_0_1_3 : w.heap.size + 1 < w7.heap.size + 1 + 1 + 1 := by omega); (try have q7_0_2_0 : w.heap.size + 1 + 1 < w7.heap.size := by omega); (try have q7_0_2_2 : w.heap.size + 1 + 1 < w7.heap.size + 1 + 1 := by omega); (try have q7_0_2_3 : w.heap.size + 1 + 1 < w7.heap.size + 1 + 1 + 1 := by omega); (try have q7_0_3_0 : w.heap.size + 1 + 1 + 1 < w7.heap.size := by omega); (try have q7_0_3_2 : w.heap.size + 1 + 1 + 1 < w7.heap.size + 1 + 1 := by omega); (try have q7_0_3_3 : w.heap.size + 1 + 1 + 1 < w7.heap.size + 1 + 1 + 1 := by omega); (try have q7_1_0_0 : w1.heap.size < w7.heap.size := by omega); (try have q7_1_0_2 : w1.heap.size < w7.heap.size + 1 + 1 := by omega); (try have q7_1_1_0 : w1.heap.size + 1 < w7.heap.size := by omega); (try have q7_1_1_2 : w1.heap.size + 1 < w7.heap.size + 1 + 1 := by omega); (try have q7_2_0_0 : w2.heap.size < w7.heap.size := by omega); (try have q7_2_0_2 : w2.heap.size < w7.heap.size + 1 + 1 := by omega); (try have q7_2_1_0 : w2.heap.size + 1 < w7.heap.size := by omega); (try have q7_2_1_2 : w2.heap.size + 1 < w7.heap.size + 1 + 1 := by omega); (try have q7_3_0_0 : w3.heap.size < w7.heap.size := by omega); (try have q7_3_0_2 : w3.heap.size < w7.heap.size + 1 + 1 := by omega); (try have q7_3_1_0 : w3.heap.size + 1 < w7.heap.size := by omega); (try have q7_3_1_2 : w3.heap.size + 1 < w7.heap.size + 1 + 1 := by omega); (try have q7_4_0_0 : w4.heap.size < w7.heap.size := by omega); (try have q7_4_0_2 : w4.heap.size < w7.heap.size + 1 + 1 := by omega); (try have q7_4_1_0 : w4.heap.size + 1 < w7.heap.size := by omega); (try have q7_4_1_2 : w4.heap.size + 1 < w7.heap.size + 1 + 1 := by omega); (try have q7_5_0_0 : w5.heap.size < w7.heap.size := by omega); (try have q7_5_0_2 : w5.heap.size < w7.heap.size + 1 + 1 := by omega); (try have q7_5_1_0 : w5.heap.size + 1 < w7.heap.size := by omega); (try have q7_5_1_2 : w5.heap.size + 1 < w7.heap.size + 1 + 1 := by omega); (try have q7_6_0_0 : w6.heap.size < w7.heap.size := by omega); (try have q7_6_0_2 : w6.heap.size < w7.heap.size + 1 + 1 := by omega); (try have q7_6_1_0 : w6.heap.size + 1 < w7.heap.size := by omega); (try have q7_6_1_2 : w6.heap.size + 1 < w7.heap.size + 1 + 1 := by omega); (try go_wp2_with fail)))
                            have hB57 : Below w5.heap.size w5 w7 := (by repeat (first | with_reducible exact Below.refl _ _ | (with_reducible refine Below.alloc ?_ (by first | omega | (simp; done) | (simp; omega)) _) | (with_reducible refine Below.setCell ?_ (by first | omega | (simp; done) | (simp; omega)) _) | (with_reducible refine Below.drew ?_) | (with_reducible refine below_drewN ?_ _) | (exact (by assumption)) | (with_reducible refine bel_step (by assumption) ?_ (by first | omega | (simp; done) | (simp; omega)))))
                            have hB7 := hB5.trans (hB57.mono (by omega))
                            go_roundw
                            case rel => exact ⟨T, _, true, true, _, i + 1, rfl, rfl, rfl, rfl, by go_num, ⟨by omega, by omega, by omega⟩, HH5.out, HK5.out.below hB57 gl5, hB7⟩
                            case measure => simp [intOf]; omega
                    · (skip)
                      as_aux_lemma =>
                        go_wp2_with fail
                        go_roundw
                        case rel => exact ⟨T, last, is, learned, c, i + 1, rfl, rfl, rfl, rfl, by go_num, ⟨by omega, by omega, by omega⟩, HH.out, KE.out, BE.out⟩
                        case measure => simp [intOf]; omega
                  · (skip)
                    as_aux_lemma =>
                      go_wp2_with fail
                      go_roundw
                      case rel => exact ⟨T, last, is, learned, c, i + 1, rfl, rfl, rfl, rfl, by go_num, ⟨by omega, by omega, by omega⟩, HH.out, KE.out, BE.out⟩
                      case measure => simp [intOf]; omega
                · (skip)
                  as_aux_lemma =>
                    go_wp2_with fail
                    go_roundw
                    case rel => exact ⟨T, last, is, learned, c, i + 1, rfl, rfl, rfl, rfl, by go_num, ⟨by omega, by omega, by omega⟩, HH.out, KE.out, BE.out⟩
                    case measure => simp [intOf]; omega
              · (skip)
                as_aux_lemma =>
                  go_wp2_with fail
                  go_roundw
                  case rel => exact ⟨T, last, is, learned, c, i + 1, rfl, rfl, rfl, rfl, by go_num, ⟨by omega, by omega, by omega⟩, HH.out, KE.out, BE.out⟩
                  case measure => simp [intOf]; omega
      · go_wp2_with fail
        go_ret
        exact ⟨rfl, HB.out⟩
    · go_wp2_with fail
      go_ret
      exact ⟨rfl, HB.out⟩

set_option maxRecDepth 100000 in
theorem lifted (os : Os) (started : os.Started) (H : Type) (enc : TypeId × Value → H) :
    ReturnsInHanded {} Tryd.checked os 10 .any (fun w args => (Rows.clockHoldsSpec.pre enc Tryd.prog Tryd.f10 [] false w args ∧ laidMetH Tryd.prog laidList w) ∧ sizedMet enc Tryd.prog Tryd.f10 (OpenSpec.ofChange Rows.clockHoldsSpec) false w args)
      (Rows.clockHoldsSpec.post enc Tryd.prog Tryd.f10 false true false false) := by
  refine returnsInHanded_of_change_and (C := Tryd.checked) (X := fun w _ => laidMetH Tryd.prog laidList w) (fun _ _ _ hh h => h.of_heap hh) own started (by kernel_rfl) Tryd.func10
    (ChangeSpec.witness_at (enc := enc) (C := Tryd.checked) (os := os) (X := fun w _ => laidMetH Tryd.prog laidList w) false (laidWorld os) #[.int .i64 0, .int .i64 0, .int .i64 0, .slice none 0 0] 8 rfl (by kernel_rfl) (by kernel_rfl) (by kernel_rfl) (by kernel_rfl) (by kernel_rfl) (laidWorld_met os _)) ?_
  intro W base args ds gs before hval0 hW hcnd hreach hL _
  have hval : ∀ (j : Nat) t v, Tryd.f10.params[j]? = some t → args[j]? = some v → Value.okWide Tryd.prog W .any base t v := hval0
  have hW' := hW
  obtain ⟨p, q, hA0, hV, rfl, hfz, hnd⟩ := hW
  have hA : DataW.TrodAll enc Tryd.prog W 0 (fun _ => true) true Tryd.f10.params.toList args.toList ds p := hA0
  rw [Tryd.params10] at hA hval
  obtain ⟨v0, vs0, d0, ds0, p0, q0, hargs, rfl, rfl, g0, r0⟩ := trodAll_cons hA
  obtain ⟨v1, vs1, d1, ds1, p1, q1, rfl, rfl, rfl, g1, r1⟩ := trodAll_cons r0
  obtain ⟨v2, vs2, d2, ds2, p2, q2, rfl, rfl, rfl, g2, r2⟩ := trodAll_cons r1
  obtain ⟨v3, vs3, d3, ds3, p3, q3, rfl, rfl, rfl, g3, r3⟩ := trodAll_cons r2
  obtain ⟨rfl, rfl, rfl⟩ := trodAll_nil r3
  obtain rfl : args = #[v0, v1, v2, v3] := by cases args; simp_all
  have hV2 : DataW.TrodVars enc Tryd.prog W (fun _ => true) [] gs q := hV
  obtain ⟨rfl, rfl⟩ : gs = [] ∧ q = [] := by
    cases gs with
    | nil => exact ⟨rfl, hV2⟩
    | cons g r => exact absurd hV2 (by intro h; cases h)
  obtain ⟨a0, rfl, rfl, rfl, u0⟩ := open_int Tryd.underlying3 (hval 0 3 v0 rfl rfl) g0
  have h0 := bounds_i64 u0
  obtain ⟨a1, rfl, rfl, rfl, u1⟩ := open_int Tryd.underlying3 (hval 1 3 v1 rfl rfl) g1
  have h1 := bounds_i64 u1
  obtain ⟨a2, rfl, rfl, rfl, u2⟩ := open_int Tryd.underlying3 (hval 2 3 v2 rfl rfl) g2
  have h2 := bounds_i64 u2
  have k3 := g3
  have lt3 : ∀ x ∈ p3, x.block < W.heap.size := by obtain ⟨m, hm⟩ := k3; exact DataW.trod_lt m _ _ _ hm
  have rd3 : Tryd.prog.readableRec 22 = true := by kernel_rfl
  have ls3 : 22 < Tryd.prog.types.size := of_decide_eq_true (by kernel_rfl)
  obtain ⟨a3, n3, c3, z3, rfl, h3⟩ := open_IntRows (hval 3 22 v3 rfl rfl) g3
  clear hA0 hval0
  refine (walk a0 a1 a2 a3 n3 c3 z3 W h0 h1 h2 h3 (handle_of_laid hL)).mono fun e W' ⟨he, bel⟩ => ?_
  subst he
  exact ⟨_, rfl, _, _, _, [], _, [], hW', trodAll_mk1 (shut_bool Tryd.underlying4 _), (trodAll_cons_mk (shut_int Tryd.underlying3 u0) (trodAll_cons_mk (shut_int Tryd.underlying3 u1) (trodAll_cons_mk (shut_int Tryd.underlying3 u2) (trodAll_cons_mk (Below.trod laidOut rd3 ls3 k3 bel lt3) trodAll_mk0)))), rfl, bel.frame _, fun h => by cases h⟩

theorem over : Rows.clockHoldsRow.holds Tryd.pinned (OpenSpec.ofChange Rows.clockHoldsSpec) :=
  OpenClaim.holds_of_wide 10 Tryd.f10 rfl rfl rfl rfl rfl rfl rfl ⟨rfl, rfl, rfl, rfl, rfl⟩ rfl rfl rfl rfl rfl (by kernel_rfl) Tryd.func10 (by kernel_rfl)
    (of_decide_eq_true (by kernel_rfl)) (by unfold Func.isWrapper; rw [if_neg (of_decide_eq_false (by kernel_rfl))]; exact ⟨rfl, rfl⟩)
    (fun os started H enc _ => lifted os started H enc)

theorem card : Rows.ClockHoldsCardSaid :=
  Claim7.holds_tied_plain_at .later [] [.handle] true (true, Rows.clockHoldsCard.stood.harness.2) true
    over (fun _ h => by cases h) (by kernel_rfl) (fun _ h => by cases h) clockHolds_row_tie rfl ⟨rfl, rfl⟩ (by kernel_rfl) rfl
    (fun f fn hf hfn => by
      obtain rfl : f = 10 := Option.some.inj ((show Tryd.prog.funcNamed "noonmark/noonlaw2.ClockHolds" = some 10 by kernel_rfl).symm.trans hf) |>.symm
      obtain rfl : fn = Tryd.f10 := (Option.some.inj (Tryd.func10.symm.trans hfn)).symm
      exact ⟨by kernel_rfl, fun j t ht => by
        rw [Tryd.params10] at ht
        exact noStandIn (ps := #[3, 3, 3, 22]) (by kernel_rfl) ht⟩)
    (by kernel_rfl)

#print axioms card
end Go.Proofs.YtkejdfpdehchcaaDoor.lClockHolds
