/- A net of true clocks: what its nodes know is true, always. No program stands here. -/
import Derived.Test.YtmficdfihogffaaHTruth
import Derived.Test.YtmficdfihogffaaHNetN
namespace Go.Proofs.Ytmficdfihogffaa
open Go.RowKit
set_option linter.unusedVariables false
set_option linter.unusedSimpArgs false
/-- true clocks. -/
structure Clocks (n : Nat) (ss rs : List Int) (p : Int) : Prop where
  n6 : n ≤ 6
  p0 : 0 ≤ p
  p1 : p ≤ 1000
  s : ∀ i, i < n → 0 ≤ ss.getD i 0 ∧ ss.getD i 0 ≤ 1000000
  r : ∀ i, i < n → -p ≤ rs.getD i 0 ∧ rs.getD i 0 ≤ p
variable {n : Nat} {ss rs : List Int} {p t t' : Int} {us us' : List RLetter} {S : Nat → NSt}
theorem Clocks.mono (h : Clocks n ss rs p) {i : Nat} (hi : i < n) (ht : t ≤ t') : hereAt ss rs t i ≤ hereAt ss rs t' i := read_mono ht (h.r i hi).1 (h.r i hi).2 h.p1
theorem Clocks.bd (h : Clocks n ss rs p) {i : Nat} (hi : i < n) (h0 : 0 ≤ t) (h1 : t ≤ 1000000000) : 0 ≤ hereAt ss rs t i ∧ hereAt ss rs t i ≤ 1002000000 := by
  have a := h.s i hi
  have b := h.r i hi
  have c := h.p1
  exact readV_bd a.1 a.2 h0 h1 (by omega) (by omega)
theorem Clocks.drift (h : Clocks n ss rs p) {i j : Nat} (hi : i < n) (hj : j < n) (ht : t ≤ t') : (hereAt ss rs t' j - hereAt ss rs t j) - (hereAt ss rs t' i - hereAt ss rs t i) ≤ slackD (hereAt ss rs t' i - hereAt ss rs t i) p ∧ (hereAt ss rs t' i - hereAt ss rs t i) - (hereAt ss rs t' j - hereAt ss rs t j) ≤ slackD (hereAt ss rs t' i - hereAt ss rs t i) p :=
  drift_apart ht (h.r i hi).1 (h.r i hi).2 (h.r j hj).1 (h.r j hj).2 h.p0 h.p1
/-- what a letter says is true. -/
def TrueL (ss rs : List Int) (t : Int) (L : RLetter) : Prop :=
  (L.answer = false ∧ ∃ i : Nat, L.src = i ∧ ∃ t0, 0 ≤ t0 ∧ t0 ≤ t ∧ L.t = hereAt ss rs t0 i) ∨
  (L.answer = true ∧ ∃ i k : Nat, L.dst = i ∧ L.src = k ∧ ∃ ta tb, 0 ≤ ta ∧ ta ≤ tb ∧ tb ≤ t ∧ L.t1 = hereAt ss rs ta i ∧ L.t2 = hereAt ss rs tb k ∧ L.t = hereAt ss rs tb k)
theorem TrueL.mono {L : RLetter} (h : TrueL ss rs t L) (ht : t ≤ t') : TrueL ss rs t' L := by
  rcases h with ⟨h1, i, h2, t0, h3, h4, h5⟩ | ⟨h1, i, k, h2, h3, ta, tb, h4, h5, h6, h7⟩
  · exact .inl ⟨h1, i, h2, t0, h3, by omega, h5⟩
  · exact .inr ⟨h1, i, k, h2, h3, ta, tb, h4, h5, by omega, h7⟩
/-- what is known is true. -/
def TrueK (ss rs : List Int) (t : Int) (i : Nat) (x : Int) (k : Kn) : Prop :=
  ∃ j : Nat, x = j ∧ ∃ tc, 0 ≤ tc ∧ tc ≤ t ∧ k.at_ = hereAt ss rs tc i ∧ k.lo ≤ hereAt ss rs tc j - hereAt ss rs tc i ∧ hereAt ss rs tc j - hereAt ss rs tc i ≤ k.hi ∧ -10000000000 ≤ k.lo ∧ k.hi ≤ 10000000000
theorem TrueK.mono {i : Nat} {x : Int} {k : Kn} (h : TrueK ss rs t i x k) (ht : t ≤ t') : TrueK ss rs t' i x k := by
  obtain ⟨j, h1, tc, h2, h3, h4⟩ := h
  exact ⟨j, h1, tc, h2, by omega, h4⟩
structure TrueN (n : Nat) (ss rs : List Int) (p t : Int) (us : List RLetter) (S : Nat → NSt) : Prop where
  C : Clocks n ss rs p
  t0 : 0 ≤ t
  t1 : t ≤ 1000000000
  L : ∀ L ∈ us, LHas n L ∧ TrueL ss rs t L
  ok : ∀ i, i < n → (S i).Ok
  sN : ∀ i, i < n → (S i).N = n ∧ (S i).id = i ∧ (S i).p = p
  h : ∀ i, i < n → (S i).h ≤ hereAt ss rs t i
  k : ∀ i, i < n → ∀ x k, (S i).f x = some k → TrueK ss rs t i x k
theorem TrueN.later (h : TrueN n ss rs p t us S) (ht : t ≤ t') (h1 : t' ≤ 1000000000) (hu : ∀ L ∈ us', LHas n L ∧ TrueL ss rs t' L) : TrueN n ss rs p t' us' S :=
  ⟨h.C, by have := h.t0; omega, h1, hu, h.ok, h.sN, fun i hi => Int.le_trans (h.h i hi) (h.C.mono hi ht), fun i hi x k hk => (h.k i hi x k hk).mono ht⟩
theorem TrueN.not_back (h : TrueN n ss rs p t us S) {i : Nat} (hi : i < n) : (S i).backB (hereAt ss rs t i) = false := by
  have b := h.C.bd hi h.t0 h.t1
  have c := h.h i hi
  unfold NSt.backB
  simp
  omega
/-- an age is true. -/
theorem TrueN.age (h : TrueN n ss rs p t us S) {i : Nat} (hi : i < n) {x : Int} {k : Kn} (hk : (S i).f x = some k) : ∃ j : Nat, x = j ∧ j < n ∧ ageL k p (hereAt ss rs t i) ≤ hereAt ss rs t j - hereAt ss rs t i ∧ hereAt ss rs t j - hereAt ss rs t i ≤ ageH k p (hereAt ss rs t i) ∧ -20000000000 ≤ ageL k p (hereAt ss rs t i) ∧ ageH k p (hereAt ss rs t i) ≤ 20000000000 := by
  obtain ⟨j, rfl, tc, h2, h3, h4, h5, h6, h7, h8⟩ := h.k i hi x k hk
  obtain ⟨a, b, _⟩ := (h.ok i hi).kn _ k hk
  rw [(h.sN i hi).1] at b
  have hj : j < n := by omega
  have d := h.C.drift hi hj h3
  have m := h.C.mono hi h3
  have bi := h.C.bd hi h.t0 h.t1
  have bc := h.C.bd hi h2 (by have := h.t1; omega)
  have sl := slack_bd (n := hereAt ss rs t i - hereAt ss rs tc i) (p := p) (by omega) (by omega) h.C.p0 h.C.p1
  refine ⟨j, rfl, hj, ?_⟩
  unfold ageL ageH
  rw [h4]
  omega
/-- what a true answer says. -/
theorem TrueN.off (h : TrueN n ss rs p t us S) {d : Nat} (hd : d < n) {L : RLetter} (hL : LHas n L) (hT : TrueL ss rs t L) (he : L.dst = d) (ha : L.answer = true) :
    (offL L (hereAt ss rs t d) p).c = 0 ∧ ∃ j : Nat, L.src = j ∧ j < n ∧ (offL L (hereAt ss rs t d) p).lo ≤ hereAt ss rs t j - hereAt ss rs t d ∧ hereAt ss rs t j - hereAt ss rs t d ≤ (offL L (hereAt ss rs t d) p).hi ∧ -10000000000 ≤ (offL L (hereAt ss rs t d) p).lo ∧ (offL L (hereAt ss rs t d) p).hi ≤ 10000000000 := by
  rcases hT with ⟨h1, _⟩ | ⟨_, i, j, h2, h3, ta, tb, h4, h5, h6, h7, h8, h9⟩
  · rw [h1] at ha; cases ha
  · obtain rfl : d = i := by omega
    have hj : j < n := by have := hL.1.2; omega
    have b1 := h.C.bd hd h4 (by have := h.t1; omega)
    have b2 := h.C.bd hj (show 0 ≤ tb by omega) (by have := h.t1; omega)
    have b3 := h.C.bd hd h.t0 h.t1
    have b4 := h.C.bd hj h.t0 h.t1
    have m1 := h.C.mono hd (show ta ≤ t by omega)
    have m2 := h.C.mono hj h6
    have m3 := h.C.mono hj h5
    have dr := h.C.drift hd hj (show ta ≤ t by omega)
    have sl := slack_bd (n := hereAt ss rs t d - hereAt ss rs ta d) (p := p) (by omega) (by omega) h.C.p0 h.C.p1
    have hp : probeC L.t1 L.t2 L.t (hereAt ss rs t d) = 0 := by
      rw [h7, h8, h9, probeC_good (timeB_iff.2 (by omega)) (timeB_iff.2 (by omega)) (timeB_iff.2 (by omega)) (timeB_iff.2 (by omega)), if_neg (by omega)]
    have ho : okP L.t1 (hereAt ss rs t d) p = true := by
      unfold okP
      rw [h7, rateB_iff.2 ⟨h.C.p0, h.C.p1⟩]
      simp; omega
    have hi : offIn L.t1 L.t2 L.t (hereAt ss rs t d) p = true := by
      unfold offIn offHi
      rw [h7, h8, h9, timeB_iff.2 (by omega), timeB_iff.2 (by omega)]; rfl
    have hle : L.t - hereAt ss rs t d ≤ offHi L.t1 L.t2 (hereAt ss rs t d) p := by unfold offHi; rw [h7, h8, h9]; omega
    unfold offL offS
    rw [if_pos hp, if_pos ho, if_pos hi, if_pos hle]
    refine ⟨rfl, j, h3, hj, ?_⟩
    simp only []
    unfold offHi
    rw [h7, h8, h9]
    omega
/-- a node that hears what is true knows what is true. -/
theorem TrueN.hears (h : TrueN n ss rs p t us S) {d : Nat} (hd : d < n) {L : RLetter} (hL : LHas n L) (hT : TrueL ss rs t L) (he : L.dst = d) {b : Bool} {c : Int} {s' : NSt} (hh : Hears (S d) L (hereAt ss rs t d) b c s') :
    (c = 0 ∨ c = 3) ∧ TrueN n ss rs p t us (updS S d s') := by
  have hnb := h.not_back hd
  have hp := (h.sN d hd).2.2
  have keep : (∀ x k, s'.f x = some k → TrueK ss rs t d x k) → s'.h ≤ hereAt ss rs t d → TrueN n ss rs p t us (updS S d s') := fun hk hh' => by
    refine ⟨h.C, h.t0, h.t1, h.L, fun i hi => ?_, fun i hi => ?_, fun i hi => ?_, fun i hi => ?_⟩
    all_goals unfold updS
    all_goals by_cases e : i = d
    · subst e; rw [if_pos rfl]; exact hh.ok (h.ok i hd)
    · rw [if_neg e]; exact h.ok i hi
    · subst e; rw [if_pos rfl]; exact ⟨hh.keeps.1.trans (h.sN i hd).1, hh.keeps.2.1.trans (h.sN i hd).2.1, hh.keeps.2.2.trans (h.sN i hd).2.2⟩
    · rw [if_neg e]; exact h.sN i hi
    · subst e; rw [if_pos rfl]; exact hh'
    · rw [if_neg e]; exact h.h i hi
    · subst e; rw [if_pos rfl]; exact hk
    · rw [if_neg e]; exact h.k i hi
  have learn : ∀ lo hi : Int, (∃ j : Nat, L.src = j ∧ lo ≤ hereAt ss rs t j - hereAt ss rs t d ∧ hereAt ss rs t j - hereAt ss rs t d ≤ hi ∧ -10000000000 ≤ lo ∧ hi ≤ 10000000000) → ∀ x k, ((S d).learn L.src (hereAt ss rs t d) lo hi).f x = some k → TrueK ss rs t d x k := by
    rintro lo hi ⟨j, hj, a1, a2, a3, a4⟩ x k hk
    have hk' : (if x = L.src then some (⟨lo, hi, hereAt ss rs t d⟩ : Kn) else (S d).f x) = some k := hk
    by_cases e : x = L.src
    · rw [if_pos e] at hk'
      have := Option.some.inj hk'
      subst this
      exact ⟨j, by rw [e, hj], t, h.t0, Int.le_refl _, rfl, a1, a2, a3, a4⟩
    · rw [if_neg e] at hk'
      exact h.k d hd x k hk'
  cases hh with
  | back hb => rw [hnb] at hb; cases hb
  | shape hb h1 => exact ⟨.inr rfl, keep (h.k d hd) (h.h d hd)⟩
  | ask hb h1 h2 h3 h4 h5 => exact ⟨.inl rfl, keep (h.k d hd) (Int.le_refl _)⟩
  | bad hb h1 h2 h3 h4 h5 h6 => rw [hp] at h6; exact absurd (h.off hd hL hT he h5).1 h6
  | first hb h1 h2 h3 h4 h5 h6 h7 =>
    refine ⟨.inl rfl, keep ?_ (Int.le_refl _)⟩
    obtain ⟨_, j, q1, q2, q3, q4, q5, q6⟩ := h.off hd hL hT he h5
    rw [hp]
    exact learn _ _ ⟨j, q1, q3, q4, q5, q6⟩
  | clash k hb h1 h2 h3 h4 h5 h6 h7 h8 =>
    obtain ⟨_, j, q1, q2, q3, q4, q5, q6⟩ := h.off hd hL hT he h5
    obtain ⟨j', e1, e2, e3, e4, e5, e6⟩ := h.age hd h7
    obtain rfl : j = j' := by omega
    unfold commonB at h8
    rw [decide_eq_false_iff_not, hp] at h8
    exfalso; apply h8
    omega
  | more k hb h1 h2 h3 h4 h5 h6 h7 h8 =>
    refine ⟨.inl rfl, keep ?_ (Int.le_refl _)⟩
    obtain ⟨_, j, q1, q2, q3, q4, q5, q6⟩ := h.off hd hL hT he h5
    obtain ⟨j', e1, e2, e3, e4, e5, e6⟩ := h.age hd h7
    obtain rfl : j = j' := by omega
    rw [hp]
    exact learn _ _ ⟨j, q1, by omega, by omega, by omega, by omega⟩
end Go.Proofs.Ytmficdfihogffaa
