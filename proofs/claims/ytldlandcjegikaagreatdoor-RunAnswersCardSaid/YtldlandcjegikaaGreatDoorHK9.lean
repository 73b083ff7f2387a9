/- Texts that serve many laws, one behind the other. -/
import Derived.Test.YtldlandcjegikaaGreatDoorHAsBad
import Derived.Test.YtldlandcjegikaaGreatDoorHK4
import Derived.Test.YtldlandcjegikaaGreatDoorHKA
set_option linter.unusedVariables false
set_option linter.unusedSimpArgs false
namespace Go.Proofs.YtldlandcjegikaaGreatDoor

section
open Go.RowKit
def ssR : List Int := [0, 1000, 50]
def rsR : List Int := [100, -100, 0]
def showC (i : Int) : Int := if i < 3 then 0 else 1
def showV (t : Int) (i : Int) : Int := if i < 3 then hereAt ssR rsR t i.toNat else 0
open Classical in
noncomputable def dateX (n : Int) : RLabel :=
 if h : ∃ x : RLabel, dateB x.year x.month x.day = true ∧ numD x.year x.month x.day = n / 86400 ∧ x.h = n % 86400 / 3600 ∧ x.m = n % 86400 / 60 % 60 ∧ x.s = n % 86400 % 60 then Classical.choose h else ⟨0, 0, 0, 0, 0, 0⟩
theorem dateX_ok {n : Int} (h0 : 0 ≤ n) (h1 : n ≤ 9999999) : dateB (dateX n).year (dateX n).month (dateX n).day = true ∧ numD (dateX n).year (dateX n).month (dateX n).day = n / 86400 ∧ (dateX n).h = n % 86400 / 3600 ∧ (dateX n).m = n % 86400 / 60 % 60 ∧ (dateX n).s = n % 86400 % 60 := by
 obtain ⟨y, m, d, e1, e2⟩ := date_of (n := n / 86400) (by omega) (by omega)
 have h : ∃ x : RLabel, dateB x.year x.month x.day = true ∧ numD x.year x.month x.day = n / 86400 ∧ x.h = n % 86400 / 3600 ∧ x.m = n % 86400 / 60 % 60 ∧ x.s = n % 86400 % 60 := ⟨⟨y, m, d, _, _, _⟩, e1, e2, rfl, rfl, rfl⟩
 unfold dateX
 rw [dif_pos h]
 exact Classical.choose_spec h
inductive LineA (t : Int) (us : List RLetter) (S : Nat → NSt) : Cmd → List UInt8 → Int → Int → List RLetter → (Nat → NSt) → Prop
 | act (k a b c t' : Int) (us' : List RLetter) (S' : Nat → NSt) (h : NAct 3 ssR rsR t us S ⟨k, a, b⟩ c t' us' S') : LineA t us S (.act k a b) [111, 107] c t' us' S'
 | show (i : Int) : LineA t us S (.show i) (Lib.itoa (showV t i)) (showC i) t us S
 | wide (v c : Int) (h : WideA 3 (hereAt ssR rsR t) S v c) : LineA t us S .wide (Lib.itoa v) c t us S
 | offset (a b : Int) (x : RSpan) (c : Int) (h : OffS 3 (hereAt ssR rsR t) S a b x c) : LineA t us S (.offset a b) (if c = 0 then printS x.lo x.hi else []) c t us S
 | date (n : Int) : LineA t us S (.date n) (labT (dateX n)) 0 t us S
def ansL (o : List UInt8) (c : Int) : List UInt8 := if c = 0 then o else nameL c
inductive Ans (t : Int) (us : List RLetter) (S : Nat → NSt) : Cmd → List UInt8 → Int → List RLetter → (Nat → NSt) → Prop
 | bad : Ans t us S .bad [98, 97, 100] t us S
 | of (C : Cmd) (o : List UInt8) (c t' : Int) (us' : List RLetter) (S' : Nat → NSt) (h : LineA t us S C o c t' us' S') : Ans t us S C (ansL o c) t' us' S'
end


section
open Go.RowKit
theorem floor_bd (x : Int) : 1000000 * (x / 1000000) ≤ x ∧ x < 1000000 * (x / 1000000) + 1000000 := by omega
theorem mul_range {d r p : Int} (d0 : 0 ≤ d) (h1 : -p ≤ r) (h2 : r ≤ p) : -(p * d) ≤ d * r ∧ d * r ≤ p * d := by
 have a := Int.mul_le_mul_of_nonneg_left h2 d0
 have b := Int.mul_le_mul_of_nonneg_left h1 d0
 rw [Int.mul_neg] at b
 rw [Int.mul_comm p d]
 omega
theorem read_mono {s r p t t' : Int} (ht : t ≤ t') (h1 : -p ≤ r) (h2 : r ≤ p) (p1 : p ≤ 1000) : readV s r t ≤ readV s r t' := by
 have d0 : 0 ≤ t' - t := by omega
 have m := mul_range d0 h1 h2
 have e : t' * r = t * r + (t' - t) * r := by rw [← Int.add_mul]; congr 1; omega
 have pd := Int.mul_le_mul_of_nonneg_right p1 d0
 unfold readV
 rw [e]
 generalize (t' - t) * r = Q at *
 generalize t * r = P at *
 generalize p * (t' - t) = E at *
 omega
theorem drift_apart {s1 r1 s2 r2 p t t' : Int} (ht : t ≤ t') (h1 : -p ≤ r1) (h2 : r1 ≤ p) (h3 : -p ≤ r2) (h4 : r2 ≤ p) (p0 : 0 ≤ p) (p1 : p ≤ 1000) :
  (readV s2 r2 t' - readV s2 r2 t) - (readV s1 r1 t' - readV s1 r1 t) ≤ slackD (readV s1 r1 t' - readV s1 r1 t) p ∧ (readV s1 r1 t' - readV s1 r1 t) - (readV s2 r2 t' - readV s2 r2 t) ≤ slackD (readV s1 r1 t' - readV s1 r1 t) p := by
 have d0 : 0 ≤ t' - t := by omega
 have m1 := mul_range d0 h1 h2
 have m2 := mul_range d0 h3 h4
 have e1 : t' * r1 = t * r1 + (t' - t) * r1 := by rw [← Int.add_mul]; congr 1; omega
 have e2 : t' * r2 = t * r2 + (t' - t) * r2 := by rw [← Int.add_mul]; congr 1; omega
 have pd0 := Int.mul_nonneg p0 d0
 unfold readV
 rw [e1, e2]
 obtain ⟨d, hd⟩ : ∃ d, t' - t = d := ⟨_, rfl⟩
 have ht' : t' = t + d := by omega
 rw [hd] at m1 m2 pd0 d0 ⊢
 subst ht'
 clear e1 e2 hd
 obtain ⟨E, hE⟩ : ∃ E, p * d = E := ⟨_, rfl⟩
 obtain ⟨Q1, hQ1⟩ : ∃ E, d * r1 = E := ⟨_, rfl⟩
 obtain ⟨Q2, hQ2⟩ : ∃ E, d * r2 = E := ⟨_, rfl⟩
 obtain ⟨P1, hP1⟩ : ∃ E, t * r1 = E := ⟨_, rfl⟩
 obtain ⟨P2, hP2⟩ : ∃ E, t * r2 = E := ⟨_, rfl⟩
 rw [hE, hQ1] at m1
 rw [hE, hQ2] at m2
 rw [hQ1, hQ2, hP1, hP2]
 rw [hE] at pd0
 clear hQ1 hQ2 hP1 hP2
 obtain ⟨n, hn⟩ : ∃ n, (s1 + (t + d) + (P1 + Q1) / 1000000) - (s1 + t + P1 / 1000000) = n := ⟨_, rfl⟩
 rw [hn]
 have f1 := floor_bd (P1 + Q1)
 have f2 := floor_bd P1
 have f3 := floor_bd (P2 + Q2)
 have f4 := floor_bd P2
 have hn1 : 1000000 * n ≥ 1000000 * d - E - 1000000 + 1 := by omega
 have F0 := Int.mul_le_mul_of_nonneg_right p1 pd0
 have hpn := Int.mul_le_mul_of_nonneg_left hn1 p0
 have ex1 : p * (1000000 * d - E - 1000000 + 1) = 1000000 * E - p * E - 1000000 * p + p := by
  rw [Int.mul_add, Int.mul_sub, Int.mul_sub, ← hE]
  rw [Int.mul_left_comm p 1000000 d]
  omega
 have ex2 : p * (1000000 * n) = 1000000 * (p * n) := Int.mul_left_comm p 1000000 n
 rw [ex1, ex2] at hpn
 have sp := upD_spec (a := n * (3 * p)) (b := 1000000) (by omega)
 have ex3 : n * (3 * p) = 3 * (p * n) := by rw [Int.mul_left_comm, Int.mul_comm n p]
 rw [ex3] at sp
 unfold slackD byP
 rw [ex3]
 generalize upD (3 * (p * n)) 1000000 = U at *
 generalize p * n = W at *
 generalize p * E = F at *
 clear hE ex1 ex2 ex3
 constructor
 ·omega
 ·omega
end


section
open Go.RowKit
structure Clocks (n : Nat) (ss rs : List Int) (p : Int) : Prop where
 n6 : n ≤ 6
 p0 : 0 ≤ p
 p1 : p ≤ 1000
 s : ∀ i, i < n → 0 ≤ ss.getD i 0 ∧ ss.getD i 0 ≤ 1000000
 r : ∀ i, i < n → -p ≤ rs.getD i 0 ∧ rs.getD i 0 ≤ p
variable {n : Nat} {ss rs : List Int} {p t t' : Int} {us us' : List RLetter} {S : Nat → NSt}
theorem Clocks.mono (h : Clocks n ss rs p) {i : Nat} (hi : i < n) (ht : t ≤ t') : hereAt ss rs t i ≤ hereAt ss rs t' i := read_mono ht (h.r i hi).1 (h.r i hi).2 h.p1
theorem Clocks.bd (h : Clocks n ss rs p) {i : Nat} (hi : i < n) (h0 : 0 ≤ t) (h1 : t ≤ 1000000000) : 0 ≤ hereAt ss rs t i ∧ hereAt ss rs t i ≤ 1002000000 := by
 have a := h.s i hi
 have b := h.r i hi
 have c := h.p1
 exact readV_bd a.1 a.2 h0 h1 (by omega) (by omega)
theorem Clocks.drift (h : Clocks n ss rs p) {i j : Nat} (hi : i < n) (hj : j < n) (ht : t ≤ t') : (hereAt ss rs t' j - hereAt ss rs t j) - (hereAt ss rs t' i - hereAt ss rs t i) ≤ slackD (hereAt ss rs t' i - hereAt ss rs t i) p ∧ (hereAt ss rs t' i - hereAt ss rs t i) - (hereAt ss rs t' j - hereAt ss rs t j) ≤ slackD (hereAt ss rs t' i - hereAt ss rs t i) p :=
 drift_apart ht (h.r i hi).1 (h.r i hi).2 (h.r j hj).1 (h.r j hj).2 h.p0 h.p1
def TrueL (ss rs : List Int) (t : Int) (L : RLetter) : Prop :=
 (L.answer = false ∧ ∃ i : Nat, L.src = i ∧ ∃ t0, 0 ≤ t0 ∧ t0 ≤ t ∧ L.t = hereAt ss rs t0 i) ∨
 (L.answer = true ∧ ∃ i k : Nat, L.dst = i ∧ L.src = k ∧ ∃ ta tb, 0 ≤ ta ∧ ta ≤ tb ∧ tb ≤ t ∧ L.t1 = hereAt ss rs ta i ∧ L.t2 = hereAt ss rs tb k ∧ L.t = hereAt ss rs tb k)
theorem TrueL.mono {L : RLetter} (h : TrueL ss rs t L) (ht : t ≤ t') : TrueL ss rs t' L := by
 rcases h with ⟨h1, i, h2, t0, h3, h4, h5⟩ | ⟨h1, i, k, h2, h3, ta, tb, h4, h5, h6, h7⟩
 ·exact .inl ⟨h1, i, h2, t0, h3, by omega, h5⟩
 ·exact .inr ⟨h1, i, k, h2, h3, ta, tb, h4, h5, by omega, h7⟩
def TrueK (ss rs : List Int) (t : Int) (i : Nat) (x : Int) (k : Kn) : Prop :=
 ∃ j : Nat, x = j ∧ ∃ tc, 0 ≤ tc ∧ tc ≤ t ∧ k.at_ = hereAt ss rs tc i ∧ k.lo ≤ hereAt ss rs tc j - hereAt ss rs tc i ∧ hereAt ss rs tc j - hereAt ss rs tc i ≤ k.hi ∧ -10000000000 ≤ k.lo ∧ k.hi ≤ 10000000000
theorem TrueK.mono {i : Nat} {x : Int} {k : Kn} (h : TrueK ss rs t i x k) (ht : t ≤ t') : TrueK ss rs t' i x k := by
 obtain ⟨j, h1, tc, h2, h3, h4⟩ := h
 exact ⟨j, h1, tc, h2, by omega, h4⟩
structure TrueN (n : Nat) (ss rs : List Int) (p t : Int) (us : List RLetter) (S : Nat → NSt) : Prop where
 C : Clocks n ss rs p
 t0 : 0 ≤ t
 t1 : t ≤ 1000000000
 L : ∀ L ∈ us, LHas n L ∧ TrueL ss rs t L
 ok : ∀ i, i < n → (S i).Ok
 sN : ∀ i, i < n → (S i).N = n ∧ (S i).id = i ∧ (S i).p = p
 h : ∀ i, i < n → (S i).h ≤ hereAt ss rs t i
 k : ∀ i, i < n → ∀ x k, (S i).f x = some k → TrueK ss rs t i x k
theorem TrueN.later (h : TrueN n ss rs p t us S) (ht : t ≤ t') (h1 : t' ≤ 1000000000) (hu : ∀ L ∈ us', LHas n L ∧ TrueL ss rs t' L) : TrueN n ss rs p t' us' S :=
 ⟨h.C, by have := h.t0; omega, h1, hu, h.ok, h.sN, fun i hi => Int.le_trans (h.h i hi) (h.C.mono hi ht), fun i hi x k hk => (h.k i hi x k hk).mono ht⟩
theorem TrueN.not_back (h : TrueN n ss rs p t us S) {i : Nat} (hi : i < n) : (S i).backB (hereAt ss rs t i) = false := by
 have b := h.C.bd hi h.t0 h.t1
 have c := h.h i hi
 unfold NSt.backB
 simp
 omega
theorem TrueN.age (h : TrueN n ss rs p t us S) {i : Nat} (hi : i < n) {x : Int} {k : Kn} (hk : (S i).f x = some k) : ∃ j : Nat, x = j ∧ j < n ∧ ageL k p (hereAt ss rs t i) ≤ hereAt ss rs t j - hereAt ss rs t i ∧ hereAt ss rs t j - hereAt ss rs t i ≤ ageH k p (hereAt ss rs t i) ∧ -20000000000 ≤ ageL k p (hereAt ss rs t i) ∧ ageH k p (hereAt ss rs t i) ≤ 20000000000 := by
 obtain ⟨j, rfl, tc, h2, h3, h4, h5, h6, h7, h8⟩ := h.k i hi x k hk
 obtain ⟨a, b, _⟩ := (h.ok i hi).kn _ k hk
 rw [(h.sN i hi).1] at b
 have hj : j < n := by omega
 have d := h.C.drift hi hj h3
 have m := h.C.mono hi h3
 have bi := h.C.bd hi h.t0 h.t1
 have bc := h.C.bd hi h2 (by have := h.t1; omega)
 have sl := slack_bd (n := hereAt ss rs t i - hereAt ss rs tc i) (p := p) (by omega) (by omega) h.C.p0 h.C.p1
 refine ⟨j, rfl, hj, ?_⟩
 unfold ageL ageH
 rw [h4]
 omega
theorem TrueN.off (h : TrueN n ss rs p t us S) {d : Nat} (hd : d < n) {L : RLetter} (hL : LHas n L) (hT : TrueL ss rs t L) (he : L.dst = d) (ha : L.answer = true) :
  (offL L (hereAt ss rs t d) p).c = 0 ∧ ∃ j : Nat, L.src = j ∧ j < n ∧ (offL L (hereAt ss rs t d) p).lo ≤ hereAt ss rs t j - hereAt ss rs t d ∧ hereAt ss rs t j - hereAt ss rs t d ≤ (offL L (hereAt ss rs t d) p).hi ∧ -10000000000 ≤ (offL L (hereAt ss rs t d) p).lo ∧ (offL L (hereAt ss rs t d) p).hi ≤ 10000000000 := by
 rcases hT with ⟨h1, _⟩ | ⟨_, i, j, h2, h3, ta, tb, h4, h5, h6, h7, h8, h9⟩
 ·rw [h1] at ha; cases ha
 ·obtain rfl : d = i := by omega
  have hj : j < n := by have := hL.1.2; omega
  have b1 := h.C.bd hd h4 (by have := h.t1; omega)
  have b2 := h.C.bd hj (show 0 ≤ tb by omega) (by have := h.t1; omega)
  have b3 := h.C.bd hd h.t0 h.t1
  have b4 := h.C.bd hj h.t0 h.t1
  have m1 := h.C.mono hd (show ta ≤ t by omega)
  have m2 := h.C.mono hj h6
  have m3 := h.C.mono hj h5
  have dr := h.C.drift hd hj (show ta ≤ t by omega)
  have sl := slack_bd (n := hereAt ss rs t d - hereAt ss rs ta d) (p := p) (by omega) (by omega) h.C.p0 h.C.p1
  have hp : probeC L.t1 L.t2 L.t (hereAt ss rs t d) = 0 := by
   rw [h7, h8, h9, probeC_good (timeB_iff.2 (by omega)) (timeB_iff.2 (by omega)) (timeB_iff.2 (by omega)) (timeB_iff.2 (by omega)), if_neg (by omega)]
  have ho : okP L.t1 (hereAt ss rs t d) p = true := by
   unfold okP
   rw [h7, rateB_iff.2 ⟨h.C.p0, h.C.p1⟩]
   simp; omega
  have hi : offIn L.t1 L.t2 L.t (hereAt ss rs t d) p = true := by
   unfold offIn offHi
   rw [h7, h8, h9, timeB_iff.2 (by omega), timeB_iff.2 (by omega)]; rfl
  have hle : L.t - hereAt ss rs t d ≤ offHi L.t1 L.t2 (hereAt ss rs t d) p := by unfold offHi; rw [h7, h8, h9]; omega
  unfold offL offS
  rw [if_pos hp, if_pos ho, if_pos hi, if_pos hle]
  refine ⟨rfl, j, h3, hj, ?_⟩
  simp only []
  unfold offHi
  rw [h7, h8, h9]
  omega
theorem TrueN.hears (h : TrueN n ss rs p t us S) {d : Nat} (hd : d < n) {L : RLetter} (hL : LHas n L) (hT : TrueL ss rs t L) (he : L.dst = d) {b : Bool} {c : Int} {s' : NSt} (hh : Hears (S d) L (hereAt ss rs t d) b c s') :
  (c = 0 ∨ c = 3) ∧ TrueN n ss rs p t us (updS S d s') := by
 have hnb := h.not_back hd
 have hp := (h.sN d hd).2.2
 have keep : (∀ x k, s'.f x = some k → TrueK ss rs t d x k) → s'.h ≤ hereAt ss rs t d → TrueN n ss rs p t us (updS S d s') := fun hk hh' => by
  refine ⟨h.C, h.t0, h.t1, h.L, fun i hi => ?_, fun i hi => ?_, fun i hi => ?_, fun i hi => ?_⟩
  all_goals unfold updS
  all_goals by_cases e : i = d
  ·subst e; rw [if_pos rfl]; exact hh.ok (h.ok i hd)
  ·rw [if_neg e]; exact h.ok i hi
  ·subst e; rw [if_pos rfl]; exact ⟨hh.keeps.1.trans (h.sN i hd).1, hh.keeps.2.1.trans (h.sN i hd).2.1, hh.keeps.2.2.trans (h.sN i hd).2.2⟩
  ·rw [if_neg e]; exact h.sN i hi
  ·subst e; rw [if_pos rfl]; exact hh'
  ·rw [if_neg e]; exact h.h i hi
  ·subst e; rw [if_pos rfl]; exact hk
  ·rw [if_neg e]; exact h.k i hi
 have learn : ∀ lo hi : Int, (∃ j : Nat, L.src = j ∧ lo ≤ hereAt ss rs t j - hereAt ss rs t d ∧ hereAt ss rs t j - hereAt ss rs t d ≤ hi ∧ -10000000000 ≤ lo ∧ hi ≤ 10000000000) → ∀ x k, ((S d).learn L.src (hereAt ss rs t d) lo hi).f x = some k → TrueK ss rs t d x k := by
  rintro lo hi ⟨j, hj, a1, a2, a3, a4⟩ x k hk
  have hk' : (if x = L.src then some (⟨lo, hi, hereAt ss rs t d⟩ : Kn) else (S d).f x) = some k := hk
  by_cases e : x = L.src
  ·rw [if_pos e] at hk'
   have := Option.some.inj hk'
   subst this
   exact ⟨j, by rw [e, hj], t, h.t0, Int.le_refl _, rfl, a1, a2, a3, a4⟩
  ·rw [if_neg e] at hk'
   exact h.k d hd x k hk'
 cases hh with
 | back hb => rw [hnb] at hb; cases hb
 | shape hb h1 => exact ⟨.inr rfl, keep (h.k d hd) (h.h d hd)⟩
 | ask hb h1 h2 h3 h4 h5 => exact ⟨.inl rfl, keep (h.k d hd) (Int.le_refl _)⟩
 | bad hb h1 h2 h3 h4 h5 h6 => rw [hp] at h6; exact absurd (h.off hd hL hT he h5).1 h6
 | first hb h1 h2 h3 h4 h5 h6 h7 =>
  refine ⟨.inl rfl, keep ?_ (Int.le_refl _)⟩
  obtain ⟨_, j, q1, q2, q3, q4, q5, q6⟩ := h.off hd hL hT he h5
  rw [hp]
  exact learn _ _ ⟨j, q1, q3, q4, q5, q6⟩
 | clash k hb h1 h2 h3 h4 h5 h6 h7 h8 =>
  obtain ⟨_, j, q1, q2, q3, q4, q5, q6⟩ := h.off hd hL hT he h5
  obtain ⟨j', e1, e2, e3, e4, e5, e6⟩ := h.age hd h7
  obtain rfl : j = j' := by omega
  unfold commonB at h8
  rw [decide_eq_false_iff_not, hp] at h8
  exfalso; apply h8
  omega
 | more k hb h1 h2 h3 h4 h5 h6 h7 h8 =>
  refine ⟨.inl rfl, keep ?_ (Int.le_refl _)⟩
  obtain ⟨_, j, q1, q2, q3, q4, q5, q6⟩ := h.off hd hL hT he h5
  obtain ⟨j', e1, e2, e3, e4, e5, e6⟩ := h.age hd h7
  obtain rfl : j = j' := by omega
  rw [hp]
  exact learn _ _ ⟨j, q1, by omega, by omega, by omega, by omega⟩
end


section
open Go.RowKit
structure BetOk (n : Nat) (zs : List REdge) (a b : Nat) (x : RSpan) : Prop where
 ok : edgesC n zs = 0
 ha : a < n
 hb : b < n
 ns : ¬ Sunk (Arc zs) n
 hi : Near (Arc zs) a b x.hi
 lo : Near (Arc zs) b a (-x.lo)
 r : rightB x.lo x.hi = true
theorem bet_ok {N : Int} {zs : List REdge} {a b : Int} {x : RSpan} (h : BetS N zs a b x 0) : ∃ n a' b' : Nat, N = n ∧ a = a' ∧ b = b' ∧ BetOk n zs a' b' x := by
 unfold BetS at h
 rcases h with ⟨h1, h2, _⟩ | ⟨_, _, h2, _⟩ | ⟨h0, hn, ⟨_, h2, _⟩ | ⟨hs, D, hD, ⟨_, h2, _⟩ | ⟨hT, ⟨_, h2, _⟩ | ⟨hf, _, hx⟩⟩⟩⟩
 ·exact absurd h2.symm h1
 ·omega
 ·omega
 ·omega
 ·omega
 ·obtain ⟨c1, c2, c3, c4⟩ := edgesC_0 h0
  rw [Bool.and_eq_true] at hn
  have n1 := nodeB_iff.1 hn.1
  have n2 := nodeB_iff.1 hn.2
  obtain ⟨n, rfl⟩ := Int.eq_ofNat_of_zero_le (show 0 ≤ N by omega)
  obtain ⟨a', rfl⟩ := Int.eq_ofNat_of_zero_le n1.1
  obtain ⟨b', rfl⟩ := Int.eq_ofNat_of_zero_le n2.1
  simp only [Int.toNat_natCast] at hs hD hT hf hx
  have ha : a' < n := by omega
  have hb : b' < n := by omega
  have g1 : Near (Arc zs) a' b' (D a' b') := by
   rcases hD a' b' ha hb with ⟨q, _⟩ | ⟨_, q⟩
   ·simp at q; omega
   ·exact q
  have g2 : Near (Arc zs) b' a' (D b' a') := by
   rcases hD b' a' hb ha with ⟨_, q⟩ | ⟨_, q⟩
   ·obtain ⟨⟨r, hr⟩, _⟩ := g1
    obtain ⟨s, d, hd⟩ := way_rev hr
    exact absurd hd (q _ _)
   ·exact q
  have tt := hT a' b' ha hb hf
  have t1 := timeB_iff.1 tt.1
  have t2 := timeB_iff.1 tt.2
  have le : 0 ≤ D a' b' + D b' a' := by
   obtain ⟨⟨r, hr⟩, _⟩ := g1
   obtain ⟨⟨s, hs'⟩, _⟩ := g2
   rcases Int.lt_or_le (D a' b' + D b' a') 0 with q | q
   ·exact absurd ⟨a', r + s, _, ha, q, hr.app hs'⟩ hs
   ·exact q
  subst hx
  exact ⟨n, a', b', rfl, rfl, rfl, h0, ha, hb, hs, g1, by simpa using g2, rightB_iff.2 (by simp only []; omega)⟩
theorem bet_in {n : Nat} {zs : List REdge} {a b : Nat} {x : RSpan} {cl : List Int} (h : BetOk n zs a b x) (hf : fitsV n zs cl = true) : hasB x.lo x.hi (cl.getD b 0 - cl.getD a 0) = true := by
 obtain ⟨⟨r, hr⟩, _⟩ := h.hi
 obtain ⟨⟨s, hs⟩, _⟩ := h.lo
 have h1 := way_pot (p := fun i => cl.getD i 0) (fit_arc hf) hr
 have h2 := way_pot (p := fun i => cl.getD i 0) (fit_arc hf) hs
 unfold hasB
 rw [h.r]
 simp only [Bool.true_and, Bool.and_eq_true, decide_eq_true_eq]
 omega
end


section
open Go.RowKit
variable {n : Nat} {ss rs : List Int} {p t t' : Int} {us us' : List RLetter} {S S' : Nat → NSt}
theorem act_true (h : TrueN n ss rs p t us S) (ls : ss.length = n) {A : RAct} {c : Int} {got : Option RLetter} (ha : WAct n ss rs t us A c got t' us') : TrueN n ss rs p t' us' S ∧ (∀ L, got = some L → LHas n L ∧ TrueL ss rs t' L) ∧ c ≠ 7 := by
 have same : TrueN n ss rs p t us S := h
 have less : ∀ j, TrueN n ss rs p t (us.eraseIdx j) S := fun j => h.later (Int.le_refl _) h.t1 (fun L hL => h.L L (List.mem_of_mem_eraseIdx hL))
 cases ha with
 | gone a b h0 h1 h2 => exact ⟨h.later (by omega) h2 (fun L hL => ⟨(h.L L hL).1, (h.L L hL).2.mono (by omega)⟩), by simp, by omega⟩
 | ask i k s r hs hr hk hne hl =>
  have hi : i < n := by rw [← ls]; exact (List.getElem?_eq_some_iff.1 hs).1
  refine ⟨h.later (Int.le_refl _) h.t1 (fun L hL => ?_), by simp, by omega⟩
  rcases List.mem_append.1 hL with h1 | h1
  ·exact h.L L h1
  ·rw [List.mem_singleton] at h1; subst h1
   exact ⟨⟨⟨by show (0 : Int) ≤ i; omega, by show (i : Int) < n; omega⟩, ⟨by show (0 : Int) ≤ k; omega, by show (k : Int) < n; omega⟩⟩, .inl ⟨rfl, i, rfl, t, h.t0, Int.le_refl _, (hereAt_eq hs hr).symm⟩⟩
 | deliver j L b hj => exact ⟨less j, fun L' e => by cases e; exact h.L L (List.mem_of_getElem? hj), by omega⟩
 | lose j L b hj => exact ⟨less j, by simp, by omega⟩
 | again j L b hj => exact ⟨same, fun L' e => by cases e; exact h.L L (List.mem_of_getElem? hj), by omega⟩
 | _ => exact ⟨same, by simp, by omega⟩
theorem ans_true (h : TrueN n ss rs p t us S) (ls : ss.length = n) {L : RLetter} {c : Int} (hT : TrueL ss rs t L) (ha : WAns n ss rs t us L c us') : TrueN n ss rs p t us' S ∧ c ≠ 7 := by
 cases ha with
 | ok i k s r t1 t2 lt hs hr hi hl =>
  have hk : k < n := by rw [← ls]; exact (List.getElem?_eq_some_iff.1 hs).1
  refine ⟨h.later (Int.le_refl _) h.t1 (fun L hL => ?_), by omega⟩
  rcases List.mem_append.1 hL with h1 | h1
  ·exact h.L L h1
  ·rw [List.mem_singleton] at h1; subst h1
   refine ⟨⟨⟨by show (0 : Int) ≤ k; omega, by show (k : Int) < n; omega⟩, ⟨by show (0 : Int) ≤ i; omega, by show (i : Int) < n; omega⟩⟩, .inr ⟨rfl, i, k, rfl, rfl, ?_⟩⟩
   rcases hT with ⟨_, i', e, t0, h2, h3, h4⟩ | ⟨e, _⟩
   ·have e' : (i : Int) = i' := e
    obtain rfl : i = i' := by omega
    exact ⟨t0, t, h2, h3, Int.le_refl _, h4, (hereAt_eq hs hr).symm, (hereAt_eq hs hr).symm⟩
   ·cases e
 | _ => exact ⟨h, by omega⟩
theorem nact_true (h : TrueN n ss rs p t us S) (ls : ss.length = n) {A : RAct} {c : Int} (ha : NAct n ss rs t us S A c t' us' S') : TrueN n ss rs p t' us' S' ∧ c ≠ 7 := by
 have hear : ∀ {A : RAct} {t' : Int} {us' : List RLetter} {L : RLetter} {d : Nat} {s r : Int} {b : Bool} {c : Int} {s' : NSt}, WAct n ss rs t us A 0 (some L) t' us' → L.dst = (d : Int) → ss[d]? = some s → rs[d]? = some r → Hears (S d) L (readV s r t') b c s' → (c = 0 ∨ c = 3) ∧ TrueN n ss rs p t' us' (updS S d s') ∧ TrueL ss rs t' L := by
  intro A t' us' L d s r b c s' hw hd hs hr hh
  obtain ⟨h1, h2, _⟩ := act_true h ls hw
  obtain ⟨h3, h4⟩ := h2 L rfl
  rw [← hereAt_eq hs hr] at hh
  have := h1.hears (by rw [← ls]; exact (List.getElem?_eq_some_iff.1 hs).1) h3 h4 hd hh
  exact ⟨this.1, this.2, h4⟩
 cases ha with
 | quiet _ _ _ hw => obtain ⟨h1, _, h3⟩ := act_true h ls hw; exact ⟨h1, h3⟩
 | bad _ _ L d s r b _ s' hw hd hs hr hh hc =>
  obtain ⟨h1, h2, _⟩ := hear hw hd hs hr hh
  exact ⟨h2, by omega⟩
 | told _ _ L d s r b s' hw hd hs hr hh ha => exact ⟨(hear hw hd hs hr hh).2.1, by omega⟩
 | asked _ us1 _ L d s r b _ s' hw hd hs hr hh ha hwa =>
  obtain ⟨_, h2, h3⟩ := hear hw hd hs hr hh
  exact ans_true h2 ls h3 hwa
theorem TrueN.tell (h : TrueN n ss rs p t us S) {i : Nat} (hi : i < n) : tellC (S i) (hereAt ss rs t i) = 0 := by
 refine tell_ok (h.not_back hi) (fun j hj => ?_)
 unfold farAt
 cases hf : (S i).f j with
 | none => rfl
 | some k =>
  obtain ⟨_, _, _, a1, a2, a3, a4⟩ := h.age hi hf
  rw [(h.sN i hi).2.2]
  show (!rightB _ _) = false
  rw [rightB_iff.2 (by omega)]
  rfl
theorem TrueN.netC (h : TrueN n ss rs p t us S) : ∀ k, k ≤ n → netC (hereAt ss rs t) S k = 0
 | 0, _ => rfl
 | k + 1, hk => by
  show (if Go.Proofs.YtldlandcjegikaaGreatDoor.netC (hereAt ss rs t) S k = 0 then tellC (S k) (hereAt ss rs t k) else _) = 0
  rw [if_pos (h.netC k (by omega))]
  exact h.tell (by omega)
theorem TrueN.edge (h : TrueN n ss rs p t us S) {e : REdge} (he : e ∈ netL (hereAt ss rs t) S n) : ∃ i j : Nat, e.a = i ∧ e.b = j ∧ i < n ∧ j < n ∧ i ≠ j ∧ e.lo ≤ hereAt ss rs t j - hereAt ss rs t i ∧ hereAt ss rs t j - hereAt ss rs t i ≤ e.hi ∧ -20000000000 ≤ e.lo ∧ e.hi ≤ 20000000000 := by
 obtain ⟨i, hi, he⟩ := List.mem_flatMap.1 he
 have hi := List.mem_range.1 hi
 unfold tellE at he
 rw [if_pos (h.tell hi)] at he
 obtain ⟨j, hj, he⟩ := List.mem_flatMap.1 he
 have hj := List.mem_range.1 hj
 rw [(h.sN i hi).1] at hj
 unfold edgeAt at he
 split at he
 ·rename_i g
  rw [List.mem_singleton] at he
  subst he
  rw [(h.sN i hi).2.1] at g ⊢
  obtain ⟨g1, g2⟩ := g
  unfold hasAt at g1
  cases hf : (S i).f j with
  | none => rw [hf, (h.sN i hi).2.1] at g1; simp at g1; exact absurd g1 g2
  | some k =>
   obtain ⟨j', e1, e2, a1, a2, a3, a4⟩ := h.age hi hf
   obtain rfl : j = j' := by omega
   refine ⟨i, j, rfl, rfl, hi, hj, fun e => g2 e.symm, ?_⟩
   unfold spanAt
   rw [hf, (h.sN i hi).2.2]
   exact ⟨a1, a2, a3, a4⟩
 ·simp at he
theorem TrueN.edgesC (h : TrueN n ss rs p t us S) (h1 : 1 ≤ n) : edgesC n (netL (hereAt ss rs t) S n) = 0 := by
 have h6 := h.C.n6
 have hl := netL_len (h := hereAt ss rs t) (S := S) (n := n) (fun i hi => (h.sN i hi).1) n (Nat.le_refl _)
 have hm := Nat.mul_le_mul h6 h6
 unfold Go.Proofs.YtldlandcjegikaaGreatDoor.edgesC
 rw [if_neg (by omega), if_neg (by omega)]
 refine edgesGo_all fun e he => ?_
 obtain ⟨i, j, e1, e2, hi, hj, hne, a1, a2, a3, a4⟩ := h.edge he
 unfold edgeC
 rw [if_pos ⟨nodeB_iff.2 (by omega), nodeB_iff.2 (by omega)⟩, if_neg (by omega), rightB_iff.2 (by omega)]
 rfl
def shows (ss rs : List Int) (t : Int) (n : Nat) : List Int := (List.range n).map (hereAt ss rs t)
theorem shows_get {i : Nat} (hi : i < n) : (shows ss rs t n)[i]? = some (hereAt ss rs t i) := by unfold shows; rw [List.getElem?_map, List.getElem?_range hi]; rfl
theorem shows_getD {i : Nat} (hi : i < n) : (shows ss rs t n).getD i 0 = hereAt ss rs t i := by rw [List.getD_eq_getElem?_getD, shows_get hi]; rfl
theorem TrueN.fitsC (h : TrueN n ss rs p t us S) (h1 : 1 ≤ n) : fitsC n (netL (hereAt ss rs t) S n) (shows ss rs t n) = 0 := by
 unfold Go.Proofs.YtldlandcjegikaaGreatDoor.fitsC
 rw [if_pos (h.edgesC h1), if_pos (by simp [shows])]
 have : (shows ss rs t n).all timeB = true := by
  rw [List.all_eq_true]
  intro x hx
  obtain ⟨i, hi, rfl⟩ := List.mem_map.1 hx
  have := h.C.bd (List.mem_range.1 hi) h.t0 h.t1
  exact timeB_iff.2 (by omega)
 rw [this]
 rfl
theorem TrueN.fits (h : TrueN n ss rs p t us S) (h1 : 1 ≤ n) : fitsV n (netL (hereAt ss rs t) S n) (shows ss rs t n) = true := by
 unfold fitsV
 rw [h.fitsC h1]
 simp only [decide_true, Bool.true_and, List.all_eq_true]
 intro e he
 obtain ⟨i, j, e1, e2, hi, hj, hne, a1, a2, a3, a4⟩ := h.edge he
 unfold fitB
 rw [e1, e2]
 simp only [Bool.and_eq_true, decide_eq_true_eq, Int.toNat_natCast]
 rw [shows_getD hi, shows_getD hj]
 exact ⟨a1, a2⟩
theorem way_cost {A : Nat → Nat → Int → Prop} {W : Int} (hA : ∀ x y w, A x y w → -W ≤ w ∧ w ≤ W) {a b r : Nat} {c : Int} (h : Way A a b r c) : -((r : Int) * W) ≤ c ∧ c ≤ (r : Int) * W := by
 induction h with
 | start => simp
 | go _ hw ih =>
  have := hA _ _ _ hw
  rw [Int.natCast_succ, Int.add_mul]
  omega
theorem TrueN.offset (h : TrueN n ss rs p t us S) (h1 : 1 ≤ n) {a b : Nat} (ha : a < n) (hb : b < n) {x : RSpan} {c : Int} (hO : OffS n (hereAt ss rs t) S a b x c) : c = 5 ∨ (c = 0 ∧ hasB x.lo x.hi (hereAt ss rs t b - hereAt ss rs t a) = true) := by
 have hnd : (nodeB (n : Int) (a : Int) && nodeB (n : Int) (b : Int)) = true := by rw [nodeB_iff.2 (by omega), nodeB_iff.2 (by omega)]; rfl
 rcases hO with ⟨h0, _⟩ | ⟨_, ⟨h0, _⟩ | ⟨_, hB⟩⟩
 ·rw [hnd] at h0; cases h0
 ·exact absurd (h.netC n (Nat.le_refl _)) h0
 ·have hfit := h.fits h1
  have hA : ∀ x y w, Arc (netL (hereAt ss rs t) S n) x y w → x < n ∧ y < n := by
   rintro x y w ⟨e, he, hx⟩
   obtain ⟨i, j, e1, e2, hi, hj, _⟩ := h.edge he
   rcases hx with ⟨q1, q2, _⟩ | ⟨q1, q2, _⟩ <;> omega
  have hW : ∀ x y w, Arc (netL (hereAt ss rs t) S n) x y w → -20000000000 ≤ w ∧ w ≤ 20000000000 := by
   rintro x y w ⟨e, he, hx⟩
   obtain ⟨i, j, e1, e2, hi, hj, _, a1, a2, a3, a4⟩ := h.edge he
   have b1 := h.C.bd hi h.t0 h.t1
   have b2 := h.C.bd hj h.t0 h.t1
   rcases hx with ⟨_, _, q3⟩ | ⟨_, _, q3⟩ <;> omega
  have hns : ¬ Sunk (Arc (netL (hereAt ss rs t) S n)) n := fit_not_sunk hfit
  by_cases hc : c = 0
  ·subst hc
   right
   obtain ⟨n', a', b', e1, e2, e3, hok⟩ := bet_ok hB
   obtain rfl : n = n' := by omega
   obtain rfl : a = a' := by omega
   obtain rfl : b = b' := by omega
   have := bet_in hok hfit
   rw [shows_getD ha, shows_getD hb] at this
   exact ⟨rfl, this⟩
  ·left
   rcases hB with ⟨g, _⟩ | ⟨_, g, _⟩ | ⟨_, _, ⟨g, _⟩ | ⟨_, D, hD, ⟨⟨i, j, hi, hj, hT⟩, _⟩ | ⟨_, ⟨_, g, _⟩ | ⟨_, g, _⟩⟩⟩⟩
   ·exact absurd (h.edgesC h1) g
   ·rw [hnd] at g; cases g
   ·simp only [Int.toNat_natCast] at g; exact absurd g hns
   ·simp only [Int.toNat_natCast] at hi hj hD
    exfalso
    apply hT
    intro hf
    have near : ∀ u v, u < n → v < n → D u v < farI → timeB (D u v) = true ∧ timeB (-(D u v)) = true := by
     intro u v hu hv huv
     rcases hD u v hu hv with ⟨q, _⟩ | ⟨_, ⟨r, hr⟩, hmin⟩
     ·have q' : decide (D u v < farI) = false := q
      rw [decide_eq_true huv] at q'; cases q'
     ·rcases Way.short hA hu r v _ hr with ⟨r', c', q1, q2, q3⟩ | ⟨v', e', c', q1, q2, q3, q4⟩
      ·have := hmin _ _ q3
       have hcost := way_cost hW q3
       have hn6 := h.C.n6
       have hr5 : (r' : Int) * 20000000000 ≤ 5 * 20000000000 := Int.mul_le_mul_of_nonneg_right (by omega) (by omega)
       exact ⟨timeB_iff.2 (by omega), timeB_iff.2 (by omega)⟩
      ·exact absurd ⟨v', e', c', q1, q3, q4⟩ hns
    have hrev := tells_rev hD hi hj (decide_eq_true hf)
    exact ⟨(near i j hi hj hf).1, (near j i hj hi (of_decide_eq_true hrev)).2⟩
   ·exact g
   ·exact absurd g hc
theorem new_true {zs ys : List Int} (hc : newC zs ys p = 0) (hl : zs.length = n) : TrueN n zs ys p 0 [] (fun i => NSt.start n i p) := by
 obtain ⟨r1, r2, r3, r4, r5⟩ := newC_0 hc
 obtain ⟨p0, p1⟩ := rateB_iff.1 r1
 obtain ⟨sb, _⟩ := clocksB_get r5 r4 p1
 have rb := clocksB_rate r5 r4
 have gs : ∀ i, i < n → ∃ s, zs[i]? = some s := fun i hi => ⟨_, List.getElem?_eq_getElem (by omega)⟩
 have gr : ∀ i, i < n → ∃ s, ys[i]? = some s := fun i hi => ⟨_, List.getElem?_eq_getElem (by omega)⟩
 have C : Clocks n zs ys p := ⟨by omega, p0, p1, fun i hi => by obtain ⟨s, hs⟩ := gs i hi; rw [List.getD_eq_getElem?_getD, hs]; exact sb i s hs, fun i hi => by obtain ⟨s, hs⟩ := gr i hi; rw [List.getD_eq_getElem?_getD, hs]; exact rb i s hs⟩
 refine ⟨C, by omega, by omega, by simp, fun i hi => NSt.start_ok (by omega) (by omega) hi p0 p1, fun i hi => ⟨rfl, rfl, rfl⟩, fun i hi => ?_, fun i hi x k hk => by cases hk⟩
 have := C.bd (t := 0) hi (by omega) (by omega)
 show (-1 : Int) ≤ _
 omega
end


section
open Go.RowKit
variable {n : Nat} {ss rs : List Int} {p t : Int} {us : List RLetter} {S S' : Nat → NSt}
def Known (S : Nat → NSt) (i : Nat) (x : Int) : Prop := ∃ k, (S i).f x = some k
end


section
open Go.RowKit
variable {n : Nat} {ss rs : List Int} {p t : Int} {us : List RLetter} {S S' : Nat → NSt}
structure StarN (n : Nat) (S : Nat → NSt) (i : Nat) : Prop where
 no : ∀ x, x < n → x ≠ 0 → ∀ y, (S x).f y = none
 yes : ∀ y : Nat, 1 ≤ y → y < i → Known S 0 y
theorem TrueN.times (h : TrueN n ss rs p t us S) (h1 : 1 ≤ n) {D : Nat → Nat → Int} (hD : Tells (Arc (netL (hereAt ss rs t) S n)) n D (fun a b => decide (D a b < farI))) {i j : Nat} (hi : i < n) (hj : j < n) : timeD D i j := by
 intro hf
 have hA : ∀ x y w, Arc (netL (hereAt ss rs t) S n) x y w → x < n ∧ y < n := by
  rintro x y w ⟨e, he, hx⟩
  obtain ⟨i, j, e1, e2, hi, hj, _⟩ := h.edge he
  rcases hx with ⟨q1, q2, _⟩ | ⟨q1, q2, _⟩ <;> omega
 have hW : ∀ x y w, Arc (netL (hereAt ss rs t) S n) x y w → -20000000000 ≤ w ∧ w ≤ 20000000000 := by
  rintro x y w ⟨e, he, hx⟩
  obtain ⟨i, j, e1, e2, hi, hj, _, a1, a2, a3, a4⟩ := h.edge he
  have b1 := h.C.bd hi h.t0 h.t1
  have b2 := h.C.bd hj h.t0 h.t1
  rcases hx with ⟨_, _, q3⟩ | ⟨_, _, q3⟩ <;> omega
 have hns : ¬ Sunk (Arc (netL (hereAt ss rs t) S n)) n := fit_not_sunk (h.fits h1)
 have near : ∀ u v, u < n → v < n → D u v < farI → timeB (D u v) = true ∧ timeB (-(D u v)) = true := by
  intro u v hu hv huv
  rcases hD u v hu hv with ⟨q, _⟩ | ⟨_, ⟨r, hr⟩, hmin⟩
  ·have q' : decide (D u v < farI) = false := q
   rw [decide_eq_true huv] at q'; cases q'
  ·rcases Way.short hA hu r v _ hr with ⟨r', c', q1, q2, q3⟩ | ⟨v', e', c', q1, q2, q3, q4⟩
   ·have := hmin _ _ q3
    have hcost := way_cost hW q3
    have hcost2 := way_cost hW hr
    have hn6 := h.C.n6
    have hr5 : (r' : Int) * 20000000000 ≤ 5 * 20000000000 := Int.mul_le_mul_of_nonneg_right (by omega) (by omega)
    exact ⟨timeB_iff.2 (by omega), timeB_iff.2 (by omega)⟩
   ·exact absurd ⟨v', e', c', q1, q3, q4⟩ hns
 have hrev := tells_rev hD hi hj (decide_eq_true hf)
 exact ⟨(near i j hi hj hf).1, (near j i hj hi (of_decide_eq_true hrev)).2⟩
end


section
open Go.RowKit
section
variable {n : Nat} {ss rs : List Int} {p t t' : Int} {us us' : List RLetter} {S S' : Nat → NSt}
def actF (n : Nat) (ss rs : List Int) (t : Int) (us : List RLetter) (A : RAct) : Int × Option RLetter × Int × List RLetter :=
 if A.what = 1 then (if A.a < 0 ∨ 1000000 < A.a ∨ 1000000000 < t + A.a then (1, none, t, us) else (0, none, t + A.a, us))
 else if A.what = 2 then (if hasN n A.a = false ∨ hasN n A.b = false then (1, none, t, us) else if A.a = A.b then (3, none, t, us) else if 40 ≤ us.length then (4, none, t, us) else (0, none, t, us ++ [⟨A.a, A.b, false, 0, 0, readV (ss.getD A.a.toNat 0) (rs.getD A.a.toNat 0) t⟩]))
 else if A.what = 3 ∨ A.what = 4 ∨ A.what = 5 then
  (if A.a < 0 ∨ (us.length : Int) ≤ A.a then (5, none, t, us) else
   if A.what = 3 then (0, us[A.a.toNat]?, t, us.eraseIdx A.a.toNat) else if A.what = 4 then (0, none, t, us.eraseIdx A.a.toNat) else (0, us[A.a.toNat]?, t, us))
 else (1, none, t, us)
theorem has_nat {i : Nat} (h : i < n) : hasN n (i : Int) = true := hasN_yes.2 (by omega)
theorem getD_at {l : List Int} {i : Nat} {z : Int} (h : l[i]? = some z) : l.getD i 0 = z := by rw [List.getD_eq_getElem?_getD, h]; rfl
theorem WAct.fn {A : RAct} {c : Int} {g : Option RLetter} (ls : ss.length = n) (h : WAct n ss rs t us A c g t' us') : (c, g, t', us') = actF n ss rs t us A := by
 unfold actF
 cases h with
 | gone a b h0 h1 h2 =>
  dsimp only
  rw [if_pos rfl, if_neg (by omega)]
 | stays a b h0 =>
  dsimp only
  rw [if_pos rfl, if_pos h0]
 | askNo a b h0 =>
  dsimp only
  rw [if_neg (by decide), if_pos rfl, if_pos h0]
 | askSame i hi =>
  dsimp only
  rw [if_neg (by decide), if_pos rfl, if_neg (by rw [has_nat hi]; simp), if_pos rfl]
 | askFull i k hi hk hne hl =>
  dsimp only
  rw [if_neg (by decide), if_pos rfl, if_neg (by rw [has_nat hi, has_nat hk]; simp), if_neg (by omega), if_pos hl]
 | ask i k s r hs hr hk hne hl =>
  dsimp only
  have hi : i < n := by rw [← ls]; exact (List.getElem?_eq_some_iff.1 hs).1
  rw [if_neg (by decide), if_pos rfl, if_neg (by rw [has_nat hi, has_nat hk]; simp), if_neg (by omega), if_neg (by omega)]
  simp only [Int.toNat_natCast, getD_at hs, getD_at hr]
 | none_ k a b hk ha =>
  dsimp only
  rw [if_neg (by show ¬ k = 1; omega), if_neg (by show ¬ k = 2; omega), if_pos hk, if_pos ha]
 | deliver j L b hj =>
  dsimp only
  have hl := (List.getElem?_eq_some_iff.1 hj).1
  rw [if_neg (by decide), if_neg (by decide), if_pos (by decide), if_neg (by omega), if_pos rfl, Int.toNat_natCast, hj]
 | lose j L b hj =>
  dsimp only
  have hl := (List.getElem?_eq_some_iff.1 hj).1
  rw [if_neg (by decide), if_neg (by decide), if_pos (by decide), if_neg (by omega), if_neg (by decide), if_pos rfl, Int.toNat_natCast]
 | again j L b hj =>
  dsimp only
  have hl := (List.getElem?_eq_some_iff.1 hj).1
  rw [if_neg (by decide), if_neg (by decide), if_pos (by decide), if_neg (by omega), if_neg (by decide), if_neg (by decide)]
  simp only [Int.toNat_natCast, hj]
 | other k a b h1 h2 h3 h4 h5 =>
  dsimp only
  rw [if_neg h1, if_neg h2, if_neg (by show ¬ (k = 3 ∨ k = 4 ∨ k = 5); omega)]
def hearF (s : NSt) (L : RLetter) (here : Int) : Bool × Int × NSt :=
 if s.backB here = true then (false, 8, s) else if L.dst ≠ s.id ∨ L.src = s.id ∨ L.src < 0 ∨ (s.N : Int) ≤ L.src then (false, 3, s) else
 if L.answer = false then (false, 0, s.heard here) else if (offL L here s.p).c ≠ 0 then (false, (offL L here s.p).c, s) else
 match s.f L.src with
 | none => (true, 0, s.learn L.src here (offL L here s.p).lo (offL L here s.p).hi)
 | some k => if commonB (ageL k s.p here) (ageH k s.p here) (offL L here s.p).lo (offL L here s.p).hi = false then (false, 7, s) else
   (true, 0, s.learn L.src here (max (ageL k s.p here) (offL L here s.p).lo) (min (ageH k s.p here) (offL L here s.p).hi))
theorem Hears.fn {s : NSt} {L : RLetter} {here : Int} {b : Bool} {c : Int} {s' : NSt} (h : Hears s L here b c s') : (b, c, s') = hearF s L here := by
 unfold hearF
 cases h with
 | back h => rw [if_pos h]
 | shape h h1 => rw [if_neg (by rw [h]; simp), if_pos h1]
 | ask h h1 h2 h3 h4 h5 => rw [if_neg (by rw [h]; simp), if_neg (by omega), if_pos h5]
 | bad h h1 h2 h3 h4 h5 h6 => rw [if_neg (by rw [h]; simp), if_neg (by omega), if_neg (by rw [h5]; simp), if_pos h6]
 | first h h1 h2 h3 h4 h5 h6 h7 => rw [if_neg (by rw [h]; simp), if_neg (by omega), if_neg (by rw [h5]; simp), if_neg (by omega), h7]
 | clash k h h1 h2 h3 h4 h5 h6 h7 h8 => rw [if_neg (by rw [h]; simp), if_neg (by omega), if_neg (by rw [h5]; simp), if_neg (by omega), h7]; simp only [if_pos h8]
 | more k h h1 h2 h3 h4 h5 h6 h7 h8 => rw [if_neg (by rw [h]; simp), if_neg (by omega), if_neg (by rw [h5]; simp), if_neg (by omega), h7]; simp only [h8, if_neg (show ¬ true = false by decide)]
def ansF (n : Nat) (ss rs : List Int) (t : Int) (us : List RLetter) (L : RLetter) : Int × List RLetter :=
 if L.answer = true then (3, us) else if hasN n L.src = false ∨ hasN n L.dst = false then (1, us) else if 40 ≤ us.length then (4, us) else
 (0, us ++ [⟨L.dst, L.src, true, L.t, readV (ss.getD L.dst.toNat 0) (rs.getD L.dst.toNat 0) t, readV (ss.getD L.dst.toNat 0) (rs.getD L.dst.toNat 0) t⟩])
theorem WAns.fn {L : RLetter} {c : Int} (ls : ss.length = n) (h : WAns n ss rs t us L c us') : (c, us') = ansF n ss rs t us L := by
 unfold ansF
 cases h with
 | yes a b t1 t2 lt => rw [if_pos rfl]
 | no a b t1 t2 lt h0 => rw [if_neg (by simp), if_pos h0]
 | full i k t1 t2 lt hi hk hl => rw [if_neg (by simp), if_neg (by rw [has_nat hi, has_nat hk]; simp), if_pos hl]
 | ok i k s r t1 t2 lt hs hr hi hl =>
  have hk : k < n := by rw [← ls]; exact (List.getElem?_eq_some_iff.1 hs).1
  rw [if_neg (by simp), if_neg (by rw [has_nat hi, has_nat hk]; simp), if_neg (by omega)]
  simp only [Int.toNat_natCast, getD_at hs, getD_at hr]
theorem NAct.det {A : RAct} {c d : Int} {t2 : Int} {us2 : List RLetter} {S2 : Nat → NSt} (ls : ss.length = n) (h : NAct n ss rs t us S A c t' us' S') (g : NAct n ss rs t us S A d t2 us2 S2) : c = d ∧ t' = t2 ∧ us' = us2 ∧ S' = S2 := by
 have one : ∀ {c d : Int} {g1 g2 : Option RLetter} {t1 t2 : Int} {u1 u2 : List RLetter}, WAct n ss rs t us A c g1 t1 u1 → WAct n ss rs t us A d g2 t2 u2 → c = d ∧ g1 = g2 ∧ t1 = t2 ∧ u1 = u2 := by
  intro c d g1 g2 t1 t2 u1 u2 h1 h2
  have := (h1.fn ls).trans (h2.fn ls).symm
  simpa using this
 have two : ∀ {L : RLetter} {d d' : Nat} {s r s2 r2 : Int} {b b' : Bool} {c c' : Int} {s' s'' : NSt} {T : Int}, L.dst = (d : Int) → L.dst = (d' : Int) → ss[d]? = some s → rs[d]? = some r → ss[d']? = some s2 → rs[d']? = some r2 → Hears (S d) L (readV s r T) b c s' → Hears (S d') L (readV s2 r2 T) b' c' s'' → d = d' ∧ c = c' ∧ s' = s'' := by
  intro L d d' s r s2 r2 b b' c c' s' s'' T e1 e2 q1 q2 q3 q4 h1 h2
  obtain rfl : d = d' := by omega
  obtain rfl : s = s2 := by rw [q1] at q3; exact Option.some.inj q3
  obtain rfl : r = r2 := by rw [q2] at q4; exact Option.some.inj q4
  have := h1.fn.trans h2.fn.symm
  simp at this
  exact ⟨rfl, this.2⟩
 cases h with
 | quiet _ _ _ h =>
  cases g with
  | quiet _ _ _ g => obtain ⟨e1, _, e2, e3⟩ := one h g; exact ⟨e1, e2, e3, rfl⟩
  | bad _ _ L2 d2 s2 r2 b2 _ s2' g hd2 hs2 hr2 hh2 hc2 => obtain ⟨_, e, _⟩ := one h g; cases e
  | told _ _ L2 d2 s2 r2 b2 s2' g hd2 hs2 hr2 hh2 ha2 => obtain ⟨_, e, _⟩ := one h g; cases e
  | asked _ u2 _ L2 d2 s2 r2 b2 _ s2' g hd2 hs2 hr2 hh2 ha2 hw2 => obtain ⟨_, e, _⟩ := one h g; cases e
 | bad _ _ L d s r b _ s' h hd hs hr hh hc =>
  cases g with
  | quiet _ _ _ g => obtain ⟨_, e, _⟩ := one h g; cases e
  | bad _ _ L2 d2 s2 r2 b2 _ s2' g hd2 hs2 hr2 hh2 hc2 =>
   obtain ⟨_, e, rfl, rfl⟩ := one h g
   cases e
   obtain ⟨rfl, e1, rfl⟩ := two hd hd2 hs hr hs2 hr2 hh hh2
   exact ⟨e1, rfl, rfl, rfl⟩
  | told _ _ L2 d2 s2 r2 b2 s2' g hd2 hs2 hr2 hh2 ha2 =>
   obtain ⟨_, e, rfl, rfl⟩ := one h g
   cases e
   exact absurd (two hd hd2 hs hr hs2 hr2 hh hh2).2.1 hc
  | asked _ u2 _ L2 d2 s2 r2 b2 _ s2' g hd2 hs2 hr2 hh2 ha2 hw2 =>
   obtain ⟨_, e, rfl, rfl⟩ := one h g
   cases e
   exact absurd (two hd hd2 hs hr hs2 hr2 hh hh2).2.1 hc
 | told _ _ L d s r b s' h hd hs hr hh ha =>
  cases g with
  | quiet _ _ _ g => obtain ⟨_, e, _⟩ := one h g; cases e
  | bad _ _ L2 d2 s2 r2 b2 _ s2' g hd2 hs2 hr2 hh2 hc2 =>
   obtain ⟨_, e, rfl, rfl⟩ := one h g
   cases e
   exact absurd (two hd hd2 hs hr hs2 hr2 hh hh2).2.1.symm hc2
  | told _ _ L2 d2 s2 r2 b2 s2' g hd2 hs2 hr2 hh2 ha2 =>
   obtain ⟨_, e, rfl, rfl⟩ := one h g
   cases e
   obtain ⟨rfl, _, rfl⟩ := two hd hd2 hs hr hs2 hr2 hh hh2
   exact ⟨rfl, rfl, rfl, rfl⟩
  | asked _ u2 _ L2 d2 s2 r2 b2 _ s2' g hd2 hs2 hr2 hh2 ha2 hw2 =>
   obtain ⟨_, e, _⟩ := one h g
   cases e
   rw [ha] at ha2; cases ha2
 | asked _ u1 _ L d s r b _ s' h hd hs hr hh ha hw =>
  cases g with
  | quiet _ _ _ g => obtain ⟨_, e, _⟩ := one h g; cases e
  | bad _ _ L2 d2 s2 r2 b2 _ s2' g hd2 hs2 hr2 hh2 hc2 =>
   obtain ⟨_, e, rfl, rfl⟩ := one h g
   cases e
   exact absurd (two hd hd2 hs hr hs2 hr2 hh hh2).2.1.symm hc2
  | told _ _ L2 d2 s2 r2 b2 s2' g hd2 hs2 hr2 hh2 ha2 =>
   obtain ⟨_, e, _⟩ := one h g
   cases e
   rw [ha] at ha2; cases ha2
  | asked _ u2 _ L2 d2 s2 r2 b2 _ s2' g hd2 hs2 hr2 hh2 ha2 hw2 =>
   obtain ⟨_, e, rfl, rfl⟩ := one h g
   cases e
   obtain ⟨rfl, _, rfl⟩ := two hd hd2 hs hr hs2 hr2 hh hh2
   have := (hw.fn ls).trans (hw2.fn ls).symm
   simp at this
   exact ⟨this.1, rfl, this.2, rfl⟩
end
end


section
open Go.RowKit
section
variable {n : Nat} {ss rs : List Int} {p t t' : Int} {us us' : List RLetter} {S S' : Nat → NSt}
theorem TrueN.near_bd (h : TrueN n ss rs p t us S) (h1 : 1 ≤ n) (hn3 : n ≤ 3) {D : Nat → Nat → Int} (hD : Tells (Arc (netL (hereAt ss rs t) S n)) n D (fun a b => decide (D a b < farI))) {u v : Nat} (hu : u < n) (hv : v < n) (huv : D u v < farI) : -40000000000 ≤ D u v ∧ D u v ≤ 40000000000 := by
 have hA : ∀ x y w, Arc (netL (hereAt ss rs t) S n) x y w → x < n ∧ y < n := by
  rintro x y w ⟨e, he, hx⟩
  obtain ⟨i, j, e1, e2, hi, hj, _⟩ := h.edge he
  rcases hx with ⟨q1, q2, _⟩ | ⟨q1, q2, _⟩ <;> omega
 have hW : ∀ x y w, Arc (netL (hereAt ss rs t) S n) x y w → -20000000000 ≤ w ∧ w ≤ 20000000000 := by
  rintro x y w ⟨e, he, hx⟩
  obtain ⟨i, j, e1, e2, hi, hj, _, a1, a2, a3, a4⟩ := h.edge he
  have b1 := h.C.bd hi h.t0 h.t1
  have b2 := h.C.bd hj h.t0 h.t1
  rcases hx with ⟨_, _, q3⟩ | ⟨_, _, q3⟩ <;> omega
 have hns : ¬ Sunk (Arc (netL (hereAt ss rs t) S n)) n := fit_not_sunk (h.fits h1)
 have up : ∀ a b, a < n → b < n → D a b < farI → D a b ≤ 40000000000 := by
  intro a b ha hb hab
  rcases hD a b ha hb with ⟨q, _⟩ | ⟨_, ⟨r, hr⟩, hmin⟩
  ·have q' : decide (D a b < farI) = false := q
   rw [decide_eq_true hab] at q'; cases q'
  ·rcases Way.short hA ha r b _ hr with ⟨r', c', q1, q2, q3⟩ | ⟨v', e', c', q1, q2, q3, q4⟩
   ·have := hmin _ _ q3
    have hcost := way_cost hW q3
    have hr5 : (r' : Int) * 20000000000 ≤ 2 * 20000000000 := Int.mul_le_mul_of_nonneg_right (by omega) (by omega)
    omega
   ·exact absurd ⟨v', e', c', q1, q3, q4⟩ hns
 have hrev := of_decide_eq_true (tells_rev hD hu hv (decide_eq_true huv))
 have k1 := up u v hu hv huv
 have k2 := up v u hv hu hrev
 refine ⟨?_, k1⟩
 rcases hD u v hu hv with ⟨q, _⟩ | ⟨_, ⟨r, hr⟩, _⟩
 ·have q' : decide (D u v < farI) = false := q
  rw [decide_eq_true huv] at q'; cases q'
 ·rcases hD v u hv hu with ⟨q, _⟩ | ⟨_, ⟨r', hr'⟩, _⟩
  ·have q' : decide (D v u < farI) = false := q
   rw [decide_eq_true hrev] at q'; cases q'
  ·by_cases g : 0 ≤ D u v + D v u
   ·omega
   ·exact absurd ⟨u, _, _, hu, by omega, hr.app hr'⟩ hns
theorem TrueN.wide_one (h : TrueN n ss rs p t us S) (h1 : 1 ≤ n) {v c : Int} (hw : WideA n (hereAt ss rs t) S v c) : c = 0 ∧ ∃ D, Tells (Arc (netL (hereAt ss rs t) S n)) n D (fun a b => decide (D a b < farI)) ∧ v = wideAll (wideF D) n n := by
 have hns : ¬ Sunk (Arc (netL (hereAt ss rs t) S n)) n := fit_not_sunk (h.fits h1)
 rcases hw with ⟨g, _⟩ | ⟨_, ⟨g, _⟩ | ⟨_, D, hD, ⟨_, _, a, b, ha, hb, hno⟩ | ⟨rfl, hT, rfl⟩⟩⟩
 ·exact absurd (h.netC n (Nat.le_refl _)) g
 ·exact absurd g hns
 ·exact absurd (h.times h1 hD ha hb) hno
 ·exact ⟨rfl, D, hD, rfl⟩
theorem TrueN.wide_bd (h : TrueN 3 ss rs p t us S) {v c : Int} (hw : WideA 3 (hereAt ss rs t) S v c) : c = 0 ∧ -1000000000000 ≤ v ∧ v ≤ 1000000000000 := by
 obtain ⟨rfl, D, hD, rfl⟩ := h.wide_one (by decide) hw
 have hF : ∀ i k, i < 3 → k < 3 → -80000000000 ≤ wideF D i k ∧ wideF D i k ≤ 80000000000 := by
  intro i k hi hk
  unfold wideF
  by_cases g : D i k < farI
  ·rw [if_pos g]
   have b1 := h.near_bd (by decide) (by decide) hD hi hk g
   have b2 := h.near_bd (by decide) (by decide) hD hk hi (of_decide_eq_true (tells_rev hD hi hk (decide_eq_true g)))
   omega
  ·rw [if_neg g]; omega
 have e1 := hF 0 1 (by decide) (by decide)
 have e2 := hF 0 2 (by decide) (by decide)
 have e3 := hF 1 2 (by decide) (by decide)
 have e : wideAll (wideF D) 3 3 = wideF D 0 1 + wideF D 0 2 + wideF D 1 2 := by
  simp [wideAll, wideRow]
 rw [e]
 refine ⟨rfl, ?_, ?_⟩ <;> omega
theorem wide_same_D {l : List REdge} {D E : Nat → Nat → Int} (hD : Tells (Arc l) n D (fun a b => decide (D a b < farI))) (hE : Tells (Arc l) n E (fun a b => decide (E a b < farI))) : wideAll (wideF D) n n = wideAll (wideF E) n n := by
 refine wideAll_congr (fun i k hi hk => ?_) n (Nat.le_refl _)
 unfold wideF
 have hh : decide (D i k < farI) = decide (E i k < farI) := hD.has hE hi hk
 by_cases q : D i k < farI
 ·have q2 : E i k < farI := by rw [decide_eq_true q] at hh; exact of_decide_eq_true hh.symm
  rw [if_pos q, if_pos q2, hD.same hE hi hk (decide_eq_true q), hD.same hE hk hi (tells_rev hD hi hk (decide_eq_true q))]
 ·have q2 : ¬ E i k < farI := by rw [decide_eq_false q] at hh; exact of_decide_eq_false hh.symm
  rw [if_neg q, if_neg q2]
theorem TrueN.wide_det (h : TrueN n ss rs p t us S) (h1 : 1 ≤ n) {v c u d : Int} (hw : WideA n (hereAt ss rs t) S v c) (hu : WideA n (hereAt ss rs t) S u d) : v = u ∧ c = d := by
 obtain ⟨rfl, D, hD, rfl⟩ := h.wide_one h1 hw
 obtain ⟨rfl, E, hE, rfl⟩ := h.wide_one h1 hu
 exact ⟨wide_same_D hD hE, rfl⟩
theorem TrueN.off_form (h : TrueN n ss rs p t us S) (h1 : 1 ≤ n) {a b : Int} {x : RSpan} {c : Int} (hO : OffS n (hereAt ss rs t) S a b x c) :
  ((nodeB n a && nodeB n b) = false ∧ c = 1 ∧ x = ⟨0, 0⟩) ∨ ((nodeB n a && nodeB n b) = true ∧ ∃ (i k : Nat) (D : Nat → Nat → Int), a = i ∧ b = k ∧ i < n ∧ k < n ∧ Tells (Arc (netL (hereAt ss rs t) S n)) n D (fun a b => decide (D a b < farI)) ∧
   ((¬ D i k < farI ∧ c = 5 ∧ x = ⟨0, 0⟩) ∨ (D i k < farI ∧ c = 0 ∧ x = ⟨-(D k i), D i k⟩))) := by
 rcases hO with ⟨q1, q2, q3⟩ | ⟨hnd, ⟨h0, _⟩ | ⟨_, hB⟩⟩
 ·exact .inl ⟨q1, q2, q3⟩
 ·exact absurd (h.netC n (Nat.le_refl _)) h0
 ·right
  refine ⟨hnd, ?_⟩
  have hns : ¬ Sunk (Arc (netL (hereAt ss rs t) S n)) n := fit_not_sunk (h.fits h1)
  have hnd2 := hnd
  simp only [Bool.and_eq_true, nodeB_iff] at hnd2
  obtain ⟨⟨p1, p2⟩, p3, p4⟩ := hnd2
  obtain ⟨i, rfl⟩ := Int.eq_ofNat_of_zero_le p1
  obtain ⟨k, rfl⟩ := Int.eq_ofNat_of_zero_le p3
  rcases hB with ⟨g, _⟩ | ⟨_, g, _⟩ | ⟨_, _, ⟨g, _⟩ | ⟨_, D, hD, ⟨⟨a', b', hi, hj, hT⟩, _⟩ | ⟨_, g⟩⟩⟩
  ·exact absurd (h.edgesC h1) g
  ·rw [hnd] at g; cases g
  ·simp only [Int.toNat_natCast] at g; exact absurd g hns
  ·simp only [Int.toNat_natCast] at hi hj hD
   exact absurd (h.times h1 hD hi hj) hT
  ·simp only [Int.toNat_natCast] at hD g
   exact ⟨i, k, D, rfl, rfl, by omega, by omega, hD, g⟩
theorem TrueN.off_det (h : TrueN n ss rs p t us S) (h1 : 1 ≤ n) {a b : Int} {x y : RSpan} {c d : Int} (hO : OffS n (hereAt ss rs t) S a b x c) (hQ : OffS n (hereAt ss rs t) S a b y d) : x = y ∧ c = d := by
 rcases h.off_form h1 hO with ⟨q1, rfl, rfl⟩ | ⟨q1, i, k, D, rfl, rfl, hi, hk, hD, g⟩ <;> rcases h.off_form h1 hQ with ⟨r1, rfl, rfl⟩ | ⟨r1, i', k', E, e1, e2, hi', hk', hE, g'⟩
 ·exact ⟨rfl, rfl⟩
 ·rw [q1] at r1; cases r1
 ·rw [q1] at r1; cases r1
 ·obtain rfl : i = i' := by omega
  obtain rfl : k = k' := by omega
  have hh : decide (D i k < farI) = decide (E i k < farI) := hD.has hE hi hk
  rcases g with ⟨g1, rfl, rfl⟩ | ⟨g1, rfl, rfl⟩ <;> rcases g' with ⟨g2, rfl, rfl⟩ | ⟨g2, rfl, rfl⟩
  ·exact ⟨rfl, rfl⟩
  ·rw [decide_eq_false g1, decide_eq_true g2] at hh; cases hh
  ·rw [decide_eq_true g1, decide_eq_false g2] at hh; cases hh
  ·rw [hD.same hE hi hk (decide_eq_true g1), hD.same hE hk hi (tells_rev hD hi hk (decide_eq_true g1))]
   exact ⟨rfl, rfl⟩
theorem TrueN.off_right (h : TrueN n ss rs p t us S) (h1 : 1 ≤ n) {a b : Int} {x : RSpan} (hO : OffS n (hereAt ss rs t) S a b x 0) : rightB x.lo x.hi = true := by
 rcases h.off_form h1 hO with ⟨_, q, _⟩ | ⟨_, i, k, D, rfl, rfl, hi, hk, _⟩
 ·cases q
 ·rcases h.offset h1 hi hk hO with q | ⟨_, q⟩
  ·cases q
  ·unfold hasB at q
   simp only [Bool.and_eq_true] at q
   exact q.1
end
section
variable {t : Int} {us : List RLetter} {S : Nat → NSt}
abbrev TrueR (t : Int) (us : List RLetter) (S : Nat → NSt) : Prop := TrueN 3 ssR rsR 100 t us S
theorem LineA.det (h : TrueR t us S) {C : Cmd} {o o2 : List UInt8} {c c2 t' t2 : Int} {us' us2 : List RLetter} {S' S2 : Nat → NSt} (g : LineA t us S C o c t' us' S') (k : LineA t us S C o2 c2 t2 us2 S2) : o = o2 ∧ c = c2 ∧ t' = t2 ∧ us' = us2 ∧ S' = S2 := by
 cases g with
 | act k1 a b c t' us' S' hg =>
  cases k with
  | act _ _ _ _ _ _ _ hk => obtain ⟨e1, e2, e3, e4⟩ := NAct.det (show ssR.length = 3 from rfl) hg hk; exact ⟨rfl, e1, e2, e3, e4⟩
 | «show» i => cases k; exact ⟨rfl, rfl, rfl, rfl, rfl⟩
 | wide v c hg =>
  cases k with
  | wide v2 c2 hk => obtain ⟨rfl, rfl⟩ := h.wide_det (by decide) hg hk; exact ⟨rfl, rfl, rfl, rfl, rfl⟩
 | offset a b x c hg =>
  cases k with
  | offset _ _ x2 c2 hk => obtain ⟨rfl, rfl⟩ := h.off_det (by decide) hg hk; exact ⟨rfl, rfl, rfl, rfl, rfl⟩
 | date n => cases k; exact ⟨rfl, rfl, rfl, rfl, rfl⟩
theorem LineA.true (h : TrueR t us S) {C : Cmd} {o : List UInt8} {c t' : Int} {us' : List RLetter} {S' : Nat → NSt} (g : LineA t us S C o c t' us' S') : TrueR t' us' S' := by
 cases g with
 | act k1 a b c t' us' S' hg => exact (nact_true h (show ssR.length = 3 from rfl) hg).1
 | _ => exact h
theorem Ans.det (h : TrueR t us S) {C : Cmd} {o o2 : List UInt8} {t' t2 : Int} {us' us2 : List RLetter} {S' S2 : Nat → NSt} (g : Ans t us S C o t' us' S') (k : Ans t us S C o2 t2 us2 S2) : o = o2 ∧ t' = t2 ∧ us' = us2 ∧ S' = S2 := by
 cases g with
 | bad =>
  cases k with
  | bad => exact ⟨rfl, rfl, rfl, rfl⟩
  | of _ _ _ _ _ _ hk => cases hk
 | of _ o c t' us' S' hg =>
  cases k with
  | bad => cases hg
  | of _ o2 c2 _ _ _ hk => obtain ⟨rfl, rfl, rfl, rfl, rfl⟩ := hg.det h hk; exact ⟨rfl, rfl, rfl, rfl⟩
theorem Ans.true (h : TrueR t us S) {C : Cmd} {o : List UInt8} {t' : Int} {us' : List RLetter} {S' : Nat → NSt} (g : Ans t us S C o t' us' S') : TrueR t' us' S' := by
 cases g with
 | bad => exact h
 | of _ _ _ _ _ _ hg => exact hg.true h
inductive Trace : Int → List RLetter → (Nat → NSt) → List (List UInt8) → List (List UInt8) → Int → List RLetter → (Nat → NSt) → Prop
 | nil (t : Int) (us : List RLetter) (S : Nat → NSt) : Trace t us S [] [] t us S
 | snoc {t t' t2 : Int} {us us' us2 : List RLetter} {S S' S2 : Nat → NSt} {ls os : List (List UInt8)} {l o : List UInt8} (h : Trace t us S ls os t' us' S') (g : Ans t' us' S' (cmdOf l) o t2 us2 S2) : Trace t us S (ls ++ [l]) (os ++ [o]) t2 us2 S2
theorem Trace.true {t' : Int} {us' : List RLetter} {S' : Nat → NSt} {ls os : List (List UInt8)} (h : TrueR t us S) (g : Trace t us S ls os t' us' S') : TrueR t' us' S' := by
 induction g with
 | nil => exact h
 | snoc _ g ih => exact g.true (ih h)
theorem Trace.len {t' : Int} {us' : List RLetter} {S' : Nat → NSt} {ls os : List (List UInt8)} (g : Trace t us S ls os t' us' S') : os.length = ls.length := by
 induction g with
 | nil => rfl
 | snoc _ _ ih => simp [ih]
theorem Trace.det {t1 t2 : Int} {us1 us2 : List RLetter} {S1 S2 : Nat → NSt} {l1 o1 : List (List UInt8)} (h : TrueR t us S) (g : Trace t us S l1 o1 t1 us1 S1) : ∀ {l2 o2 : List (List UInt8)}, l1 = l2 → Trace t us S l2 o2 t2 us2 S2 → o1 = o2 ∧ t1 = t2 ∧ us1 = us2 ∧ S1 = S2 := by
 induction g generalizing t2 us2 S2 with
 | nil =>
  intro l2 o2 e k
  cases k with
  | nil => exact ⟨rfl, rfl, rfl, rfl⟩
  | snoc _ _ => simp at e
 | snoc g a ih =>
  intro l2 o2 e k
  cases k with
  | nil => simp at e
  | snoc g' a' =>
   obtain ⟨e1, e2⟩ := List.append_inj' e rfl
   obtain rfl := List.cons.inj e2 |>.1
   obtain ⟨rfl, rfl, rfl, rfl⟩ := ih h e1 g'
   obtain ⟨rfl, rfl, rfl, rfl⟩ := a.det (g.true h) a'
   exact ⟨rfl, rfl, rfl, rfl⟩
theorem Trace.take {t1 : Int} {us1 : List RLetter} {S1 : Nat → NSt} {l1 o1 : List (List UInt8)} (g : Trace t us S l1 o1 t1 us1 S1) : ∀ k, ∃ t2 us2 S2, Trace t us S (l1.take k) (o1.take k) t2 us2 S2 := by
 induction g with
 | nil => intro k; exact ⟨_, _, _, by simpa using Trace.nil _ _ _⟩
 | snoc g a ih =>
  rename_i ls os l o
  intro k
  have hl := g.len
  by_cases hk : k ≤ ls.length
  ·obtain ⟨t3, us3, S3, h3⟩ := ih k
   refine ⟨t3, us3, S3, ?_⟩
   rw [List.take_append_of_le_length hk, List.take_append_of_le_length (by omega)]
   exact h3
  ·rw [List.take_of_length_le (show (ls ++ [l]).length ≤ k by simp; omega), List.take_of_length_le (show (os ++ [o]).length ≤ k by simp; omega)]
   exact ⟨_, _, _, Trace.snoc g a⟩
def outL (os : List (List UInt8)) : List UInt8 := os.flatMap fun o => o ++ [10]
theorem outL_snoc (os : List (List UInt8)) (o : List UInt8) : outL (os ++ [o]) = outL os ++ (o ++ [10]) := by simp [outL]
end
end


section
open Go.RowKit
theorem nameL_len (c : Int) : (nameL c).length ≤ 100 := by unfold nameL; (repeat' split) <;> decide
theorem showV_bd {t : Int} {us : List RLetter} {S : Nat → NSt} (h : TrueR t us S) (i : Int) : -9223372036854775808 ≤ showV t i ∧ showV t i ≤ 9223372036854775807 := by
 unfold showV
 by_cases hi : i < 3
 ·rw [if_pos hi]
  have b := h.C.bd (i := i.toNat) (by omega) h.t0 h.t1
  omega
 ·rw [if_neg hi]; omega
theorem LineA.len {t : Int} {us : List RLetter} {S : Nat → NSt} (h : TrueR t us S) {C : Cmd} {o : List UInt8} {c t' : Int} {us' : List RLetter} {S' : Nat → NSt} (g : LineA t us S C o c t' us' S') : o.length ≤ 100 := by
 cases g with
 | act => decide
 | «show» i =>
  obtain ⟨b1, b2⟩ := showV_bd h i
  have := Lib.itoa_length_le (showV t i) b1 b2
  omega
 | wide v c hw =>
  obtain ⟨_, b1, b2⟩ := h.wide_bd hw
  have := Lib.itoa_length_le v (by omega) (by omega)
  omega
 | offset a b x c hO =>
  by_cases c0 : c = 0
  ·subst c0
   have hr := h.off_right (by decide) hO
   obtain ⟨g1, g2, g3⟩ := rightB_iff.1 hr
   have l1 := Lib.itoa_length_le x.lo (by omega) (by omega)
   have l2 := Lib.itoa_length_le x.hi (by omega) (by omega)
   rw [if_pos rfl]
   unfold printS
   rw [if_pos hr]
   unfold printL dots
   simp only [List.length_append, List.length_cons, List.length_nil]
   omega
  ·rw [if_neg c0]; decide
 | date n => rw [labT_len]; decide
theorem Ans.len {t : Int} {us : List RLetter} {S : Nat → NSt} (h : TrueR t us S) {C : Cmd} {o : List UInt8} {t' : Int} {us' : List RLetter} {S' : Nat → NSt} (g : Ans t us S C o t' us' S') : o.length ≤ 100 := by
 cases g with
 | bad => decide
 | of o c _ _ _ _ hl =>
  unfold ansL
  split
  ·exact hl.len h
  ·exact nameL_len _
theorem Trace.size {t : Int} {us : List RLetter} {S : Nat → NSt} {t' : Int} {us' : List RLetter} {S' : Nat → NSt} {ls os : List (List UInt8)} (h : TrueR t us S) (g : Trace t us S ls os t' us' S') : (outL os).length ≤ 101 * ls.length := by
 induction g with
 | nil => simp [outL]
 | snoc g a ih =>
  rw [outL_snoc]
  have := a.len (g.true h)
  simp only [List.length_append, List.length_cons, List.length_nil]
  have := ih h
  omega
theorem TrueR.start : TrueR 0 [] (fun i => NSt.start 3 i 100) := new_true (zs := ssR) (ys := rsR) (p := 100) (by decide) rfl
end


section
open Go.RowKit Go.Lib
end


section
open Go.RowKit
end
end Go.Proofs.YtldlandcjegikaaGreatDoor
