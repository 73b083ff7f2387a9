/- Texts that serve many laws, one behind the other. -/
import Derived.Test.YtfjpfkejajgkbaaDoorHClock
import Derived.Test.YtfjpfkejajgkbaaDoorHG4
import Derived.Test.YtfjpfkejajgkbaaDoorHHoldP
import Derived.Test.YtfjpfkejajgkbaaDoorHKeeper
import Derived.Test.YtfjpfkejajgkbaaDoorHLabel
import Derived.Test.YtfjpfkejajgkbaaDoorHNetA
import Derived.Test.YtfjpfkejajgkbaaDoorHNetN
import Derived.Test.YtfjpfkejajgkbaaDoorHNetO
import Derived.Test.YtfjpfkejajgkbaaDoorHTellP
import Derived.Test.YtfjpfkejajgkbaaDoorHTruth
/- A net of true clocks: what its nodes know is true, always. No program stands here. -/
namespace Go.Proofs.YtfjpfkejajgkbaaDoor
open Go.RowKit
set_option linter.unusedVariables false
set_option linter.unusedSimpArgs false
/-- true clocks. -/
structure Clocks (n : Nat) (ss rs : List Int) (p : Int) : Prop where
  n6 : n ≤ 6
  p0 : 0 ≤ p
  p1 : p ≤ 1000
  s : ∀ i, i < n → 0 ≤ ss.getD i 0 ∧ ss.getD i 0 ≤ 1000000
  r : ∀ i, i < n → -p ≤ rs.getD i 0 ∧ rs.getD i 0 ≤ p
variable {n : Nat} {ss rs : List Int} {p t t' : Int} {us us' : List RLetter} {S : Nat → NSt}
theorem Clocks.mono (h : Clocks n ss rs p) {i : Nat} (hi : i < n) (ht : t ≤ t') : hereAt ss rs t i ≤ hereAt ss rs t' i := read_mono ht (h.r i hi).1 (h.r i hi).2 h.p1
theorem Clocks.bd (h : Clocks n ss rs p) {i : Nat} (hi : i < n) (h0 : 0 ≤ t) (h1 : t ≤ 1000000000) : 0 ≤ hereAt ss rs t i ∧ hereAt ss rs t i ≤ 1002000000 := by
  have a := h.s i hi
  have b := h.r i hi
  have c := h.p1
  exact readV_bd a.1 a.2 h0 h1 (by omega) (by omega)
theorem Clocks.drift (h : Clocks n ss rs p) {i j : Nat} (hi : i < n) (hj : j < n) (ht : t ≤ t') : (hereAt ss rs t' j - hereAt ss rs t j) - (hereAt ss rs t' i - hereAt ss rs t i) ≤ slackD (hereAt ss rs t' i - hereAt ss rs t i) p ∧ (hereAt ss rs t' i - hereAt ss rs t i) - (hereAt ss rs t' j - hereAt ss rs t j) ≤ slackD (hereAt ss rs t' i - hereAt ss rs t i) p :=
  drift_apart ht (h.r i hi).1 (h.r i hi).2 (h.r j hj).1 (h.r j hj).2 h.p0 h.p1
/-- what a letter says is true. -/
def TrueL (ss rs : List Int) (t : Int) (L : RLetter) : Prop :=
  (L.answer = false ∧ ∃ i : Nat, L.src = i ∧ ∃ t0, 0 ≤ t0 ∧ t0 ≤ t ∧ L.t = hereAt ss rs t0 i) ∨
  (L.answer = true ∧ ∃ i k : Nat, L.dst = i ∧ L.src = k ∧ ∃ ta tb, 0 ≤ ta ∧ ta ≤ tb ∧ tb ≤ t ∧ L.t1 = hereAt ss rs ta i ∧ L.t2 = hereAt ss rs tb k ∧ L.t = hereAt ss rs tb k)
theorem TrueL.mono {L : RLetter} (h : TrueL ss rs t L) (ht : t ≤ t') : TrueL ss rs t' L := by
  rcases h with ⟨h1, i, h2, t0, h3, h4, h5⟩ | ⟨h1, i, k, h2, h3, ta, tb, h4, h5, h6, h7⟩
  · exact .inl ⟨h1, i, h2, t0, h3, by omega, h5⟩
  · exact .inr ⟨h1, i, k, h2, h3, ta, tb, h4, h5, by omega, h7⟩
/-- what is known is true. -/
def TrueK (ss rs : List Int) (t : Int) (i : Nat) (x : Int) (k : Kn) : Prop :=
  ∃ j : Nat, x = j ∧ ∃ tc, 0 ≤ tc ∧ tc ≤ t ∧ k.at_ = hereAt ss rs tc i ∧ k.lo ≤ hereAt ss rs tc j - hereAt ss rs tc i ∧ hereAt ss rs tc j - hereAt ss rs tc i ≤ k.hi ∧ -10000000000 ≤ k.lo ∧ k.hi ≤ 10000000000
theorem TrueK.mono {i : Nat} {x : Int} {k : Kn} (h : TrueK ss rs t i x k) (ht : t ≤ t') : TrueK ss rs t' i x k := by
  obtain ⟨j, h1, tc, h2, h3, h4⟩ := h
  exact ⟨j, h1, tc, h2, by omega, h4⟩
structure TrueN (n : Nat) (ss rs : List Int) (p t : Int) (us : List RLetter) (S : Nat → NSt) : Prop where
  C : Clocks n ss rs p
  t0 : 0 ≤ t
  t1 : t ≤ 1000000000
  L : ∀ L ∈ us, LHas n L ∧ TrueL ss rs t L
  ok : ∀ i, i < n → (S i).Ok
  sN : ∀ i, i < n → (S i).N = n ∧ (S i).id = i ∧ (S i).p = p
  h : ∀ i, i < n → (S i).h ≤ hereAt ss rs t i
  k : ∀ i, i < n → ∀ x k, (S i).f x = some k → TrueK ss rs t i x k
theorem TrueN.later (h : TrueN n ss rs p t us S) (ht : t ≤ t') (h1 : t' ≤ 1000000000) (hu : ∀ L ∈ us', LHas n L ∧ TrueL ss rs t' L) : TrueN n ss rs p t' us' S :=
  ⟨h.C, by have := h.t0; omega, h1, hu, h.ok, h.sN, fun i hi => Int.le_trans (h.h i hi) (h.C.mono hi ht), fun i hi x k hk => (h.k i hi x k hk).mono ht⟩
theorem TrueN.not_back (h : TrueN n ss rs p t us S) {i : Nat} (hi : i < n) : (S i).backB (hereAt ss rs t i) = false := by
  have b := h.C.bd hi h.t0 h.t1
  have c := h.h i hi
  unfold NSt.backB
  simp
  omega
/-- an age is true. -/
theorem TrueN.age (h : TrueN n ss rs p t us S) {i : Nat} (hi : i < n) {x : Int} {k : Kn} (hk : (S i).f x = some k) : ∃ j : Nat, x = j ∧ j < n ∧ ageL k p (hereAt ss rs t i) ≤ hereAt ss rs t j - hereAt ss rs t i ∧ hereAt ss rs t j - hereAt ss rs t i ≤ ageH k p (hereAt ss rs t i) ∧ -20000000000 ≤ ageL k p (hereAt ss rs t i) ∧ ageH k p (hereAt ss rs t i) ≤ 20000000000 := by
  obtain ⟨j, rfl, tc, h2, h3, h4, h5, h6, h7, h8⟩ := h.k i hi x k hk
  obtain ⟨a, b, _⟩ := (h.ok i hi).kn _ k hk
  rw [(h.sN i hi).1] at b
  have hj : j < n := by omega
  have d := h.C.drift hi hj h3
  have m := h.C.mono hi h3
  have bi := h.C.bd hi h.t0 h.t1
  have bc := h.C.bd hi h2 (by have := h.t1; omega)
  have sl := slack_bd (n := hereAt ss rs t i - hereAt ss rs tc i) (p := p) (by omega) (by omega) h.C.p0 h.C.p1
  refine ⟨j, rfl, hj, ?_⟩
  unfold ageL ageH
  rw [h4]
  omega
/-- what a true answer says. -/
theorem TrueN.off (h : TrueN n ss rs p t us S) {d : Nat} (hd : d < n) {L : RLetter} (hL : LHas n L) (hT : TrueL ss rs t L) (he : L.dst = d) (ha : L.answer = true) :
    (offL L (hereAt ss rs t d) p).c = 0 ∧ ∃ j : Nat, L.src = j ∧ j < n ∧ (offL L (hereAt ss rs t d) p).lo ≤ hereAt ss rs t j - hereAt ss rs t d ∧ hereAt ss rs t j - hereAt ss rs t d ≤ (offL L (hereAt ss rs t d) p).hi ∧ -10000000000 ≤ (offL L (hereAt ss rs t d) p).lo ∧ (offL L (hereAt ss rs t d) p).hi ≤ 10000000000 := by
  rcases hT with ⟨h1, _⟩ | ⟨_, i, j, h2, h3, ta, tb, h4, h5, h6, h7, h8, h9⟩
  · rw [h1] at ha; cases ha
  · obtain rfl : d = i := by omega
    have hj : j < n := by have := hL.1.2; omega
    have b1 := h.C.bd hd h4 (by have := h.t1; omega)
    have b2 := h.C.bd hj (show 0 ≤ tb by omega) (by have := h.t1; omega)
    have b3 := h.C.bd hd h.t0 h.t1
    have b4 := h.C.bd hj h.t0 h.t1
    have m1 := h.C.mono hd (show ta ≤ t by omega)
    have m2 := h.C.mono hj h6
    have m3 := h.C.mono hj h5
    have dr := h.C.drift hd hj (show ta ≤ t by omega)
    have sl := slack_bd (n := hereAt ss rs t d - hereAt ss rs ta d) (p := p) (by omega) (by omega) h.C.p0 h.C.p1
    have hp : probeC L.t1 L.t2 L.t (hereAt ss rs t d) = 0 := by
      rw [h7, h8, h9, probeC_good (timeB_iff.2 (by omega)) (timeB_iff.2 (by omega)) (timeB_iff.2 (by omega)) (timeB_iff.2 (by omega)), if_neg (by omega)]
    have ho : okP L.t1 (hereAt ss rs t d) p = true := by
      unfold okP
      rw [h7, rateB_iff.2 ⟨h.C.p0, h.C.p1⟩]
      simp; omega
    have hi : offIn L.t1 L.t2 L.t (hereAt ss rs t d) p = true := by
      unfold offIn offHi
      rw [h7, h8, h9, timeB_iff.2 (by omega), timeB_iff.2 (by omega)]; rfl
    have hle : L.t - hereAt ss rs t d ≤ offHi L.t1 L.t2 (hereAt ss rs t d) p := by unfold offHi; rw [h7, h8, h9]; omega
    unfold offL offS
    rw [if_pos hp, if_pos ho, if_pos hi, if_pos hle]
    refine ⟨rfl, j, h3, hj, ?_⟩
    simp only []
    unfold offHi
    rw [h7, h8, h9]
    omega
/-- a node that hears what is true knows what is true. -/
theorem TrueN.hears (h : TrueN n ss rs p t us S) {d : Nat} (hd : d < n) {L : RLetter} (hL : LHas n L) (hT : TrueL ss rs t L) (he : L.dst = d) {b : Bool} {c : Int} {s' : NSt} (hh : Hears (S d) L (hereAt ss rs t d) b c s') :
    (c = 0 ∨ c = 3) ∧ TrueN n ss rs p t us (updS S d s') := by
  have hnb := h.not_back hd
  have hp := (h.sN d hd).2.2
  have keep : (∀ x k, s'.f x = some k → TrueK ss rs t d x k) → s'.h ≤ hereAt ss rs t d → TrueN n ss rs p t us (updS S d s') := fun hk hh' => by
    refine ⟨h.C, h.t0, h.t1, h.L, fun i hi => ?_, fun i hi => ?_, fun i hi => ?_, fun i hi => ?_⟩
    all_goals unfold updS
    all_goals by_cases e : i = d
    · subst e; rw [if_pos rfl]; exact hh.ok (h.ok i hd)
    · rw [if_neg e]; exact h.ok i hi
    · subst e; rw [if_pos rfl]; exact ⟨hh.keeps.1.trans (h.sN i hd).1, hh.keeps.2.1.trans (h.sN i hd).2.1, hh.keeps.2.2.trans (h.sN i hd).2.2⟩
    · rw [if_neg e]; exact h.sN i hi
    · subst e; rw [if_pos rfl]; exact hh'
    · rw [if_neg e]; exact h.h i hi
    · subst e; rw [if_pos rfl]; exact hk
    · rw [if_neg e]; exact h.k i hi
  have learn : ∀ lo hi : Int, (∃ j : Nat, L.src = j ∧ lo ≤ hereAt ss rs t j - hereAt ss rs t d ∧ hereAt ss rs t j - hereAt ss rs t d ≤ hi ∧ -10000000000 ≤ lo ∧ hi ≤ 10000000000) → ∀ x k, ((S d).learn L.src (hereAt ss rs t d) lo hi).f x = some k → TrueK ss rs t d x k := by
    rintro lo hi ⟨j, hj, a1, a2, a3, a4⟩ x k hk
    have hk' : (if x = L.src then some (⟨lo, hi, hereAt ss rs t d⟩ : Kn) else (S d).f x) = some k := hk
    by_cases e : x = L.src
    · rw [if_pos e] at hk'
      have := Option.some.inj hk'
      subst this
      exact ⟨j, by rw [e, hj], t, h.t0, Int.le_refl _, rfl, a1, a2, a3, a4⟩
    · rw [if_neg e] at hk'
      exact h.k d hd x k hk'
  cases hh with
  | back hb => rw [hnb] at hb; cases hb
  | shape hb h1 => exact ⟨.inr rfl, keep (h.k d hd) (h.h d hd)⟩
  | ask hb h1 h2 h3 h4 h5 => exact ⟨.inl rfl, keep (h.k d hd) (Int.le_refl _)⟩
  | bad hb h1 h2 h3 h4 h5 h6 => rw [hp] at h6; exact absurd (h.off hd hL hT he h5).1 h6
  | first hb h1 h2 h3 h4 h5 h6 h7 =>
    refine ⟨.inl rfl, keep ?_ (Int.le_refl _)⟩
    obtain ⟨_, j, q1, q2, q3, q4, q5, q6⟩ := h.off hd hL hT he h5
    rw [hp]
    exact learn _ _ ⟨j, q1, q3, q4, q5, q6⟩
  | clash k hb h1 h2 h3 h4 h5 h6 h7 h8 =>
    obtain ⟨_, j, q1, q2, q3, q4, q5, q6⟩ := h.off hd hL hT he h5
    obtain ⟨j', e1, e2, e3, e4, e5, e6⟩ := h.age hd h7
    obtain rfl : j = j' := by omega
    unfold commonB at h8
    rw [decide_eq_false_iff_not, hp] at h8
    exfalso; apply h8
    omega
  | more k hb h1 h2 h3 h4 h5 h6 h7 h8 =>
    refine ⟨.inl rfl, keep ?_ (Int.le_refl _)⟩
    obtain ⟨_, j, q1, q2, q3, q4, q5, q6⟩ := h.off hd hL hT he h5
    obtain ⟨j', e1, e2, e3, e4, e5, e6⟩ := h.age hd h7
    obtain rfl : j = j' := by omega
    rw [hp]
    exact learn _ _ ⟨j, q1, by omega, by omega, by omega, by omega⟩
end Go.Proofs.YtfjpfkejajgkbaaDoor

/- A net of true clocks: its edges are true, and what it tells of two clocks. No program stands here. -/
namespace Go.Proofs.YtfjpfkejajgkbaaDoor
open Go.RowKit
set_option linter.unusedVariables false
set_option linter.unusedSimpArgs false
variable {n : Nat} {ss rs : List Int} {p t t' : Int} {us us' : List RLetter} {S S' : Nat → NSt}
theorem act_true (h : TrueN n ss rs p t us S) (ls : ss.length = n) {A : RAct} {c : Int} {got : Option RLetter} (ha : WAct n ss rs t us A c got t' us') : TrueN n ss rs p t' us' S ∧ (∀ L, got = some L → LHas n L ∧ TrueL ss rs t' L) ∧ c ≠ 7 := by
  have same : TrueN n ss rs p t us S := h
  have less : ∀ j, TrueN n ss rs p t (us.eraseIdx j) S := fun j => h.later (Int.le_refl _) h.t1 (fun L hL => h.L L (List.mem_of_mem_eraseIdx hL))
  cases ha with
  | gone a b h0 h1 h2 => exact ⟨h.later (by omega) h2 (fun L hL => ⟨(h.L L hL).1, (h.L L hL).2.mono (by omega)⟩), by simp, by omega⟩
  | ask i k s r hs hr hk hne hl =>
    have hi : i < n := by rw [← ls]; exact (List.getElem?_eq_some_iff.1 hs).1
    refine ⟨h.later (Int.le_refl _) h.t1 (fun L hL => ?_), by simp, by omega⟩
    rcases List.mem_append.1 hL with h1 | h1
    · exact h.L L h1
    · rw [List.mem_singleton] at h1; subst h1
      exact ⟨⟨⟨by show (0 : Int) ≤ i; omega, by show (i : Int) < n; omega⟩, ⟨by show (0 : Int) ≤ k; omega, by show (k : Int) < n; omega⟩⟩, .inl ⟨rfl, i, rfl, t, h.t0, Int.le_refl _, (hereAt_eq hs hr).symm⟩⟩
  | deliver j L b hj => exact ⟨less j, fun L' e => by cases e; exact h.L L (List.mem_of_getElem? hj), by omega⟩
  | lose j L b hj => exact ⟨less j, by simp, by omega⟩
  | again j L b hj => exact ⟨same, fun L' e => by cases e; exact h.L L (List.mem_of_getElem? hj), by omega⟩
  | _ => exact ⟨same, by simp, by omega⟩
theorem ans_true (h : TrueN n ss rs p t us S) (ls : ss.length = n) {L : RLetter} {c : Int} (hT : TrueL ss rs t L) (ha : WAns n ss rs t us L c us') : TrueN n ss rs p t us' S ∧ c ≠ 7 := by
  cases ha with
  | ok i k s r t1 t2 lt hs hr hi hl =>
    have hk : k < n := by rw [← ls]; exact (List.getElem?_eq_some_iff.1 hs).1
    refine ⟨h.later (Int.le_refl _) h.t1 (fun L hL => ?_), by omega⟩
    rcases List.mem_append.1 hL with h1 | h1
    · exact h.L L h1
    · rw [List.mem_singleton] at h1; subst h1
      refine ⟨⟨⟨by show (0 : Int) ≤ k; omega, by show (k : Int) < n; omega⟩, ⟨by show (0 : Int) ≤ i; omega, by show (i : Int) < n; omega⟩⟩, .inr ⟨rfl, i, k, rfl, rfl, ?_⟩⟩
      rcases hT with ⟨_, i', e, t0, h2, h3, h4⟩ | ⟨e, _⟩
      · have e' : (i : Int) = i' := e
        obtain rfl : i = i' := by omega
        exact ⟨t0, t, h2, h3, Int.le_refl _, h4, (hereAt_eq hs hr).symm, (hereAt_eq hs hr).symm⟩
      · cases e
  | _ => exact ⟨h, by omega⟩
theorem nact_true (h : TrueN n ss rs p t us S) (ls : ss.length = n) {A : RAct} {c : Int} (ha : NAct n ss rs t us S A c t' us' S') : TrueN n ss rs p t' us' S' ∧ c ≠ 7 := by
  have hear : ∀ {A : RAct} {t' : Int} {us' : List RLetter} {L : RLetter} {d : Nat} {s r : Int} {b : Bool} {c : Int} {s' : NSt}, WAct n ss rs t us A 0 (some L) t' us' → L.dst = (d : Int) → ss[d]? = some s → rs[d]? = some r → Hears (S d) L (readV s r t') b c s' → (c = 0 ∨ c = 3) ∧ TrueN n ss rs p t' us' (updS S d s') ∧ TrueL ss rs t' L := by
    intro A t' us' L d s r b c s' hw hd hs hr hh
    obtain ⟨h1, h2, _⟩ := act_true h ls hw
    obtain ⟨h3, h4⟩ := h2 L rfl
    rw [← hereAt_eq hs hr] at hh
    have := h1.hears (by rw [← ls]; exact (List.getElem?_eq_some_iff.1 hs).1) h3 h4 hd hh
    exact ⟨this.1, this.2, h4⟩
  cases ha with
  | quiet _ _ _ hw => obtain ⟨h1, _, h3⟩ := act_true h ls hw; exact ⟨h1, h3⟩
  | bad _ _ L d s r b _ s' hw hd hs hr hh hc =>
    obtain ⟨h1, h2, _⟩ := hear hw hd hs hr hh
    exact ⟨h2, by omega⟩
  | told _ _ L d s r b s' hw hd hs hr hh ha => exact ⟨(hear hw hd hs hr hh).2.1, by omega⟩
  | asked _ us1 _ L d s r b _ s' hw hd hs hr hh ha hwa =>
    obtain ⟨_, h2, h3⟩ := hear hw hd hs hr hh
    exact ans_true h2 ls h3 hwa
theorem TrueN.tell (h : TrueN n ss rs p t us S) {i : Nat} (hi : i < n) : tellC (S i) (hereAt ss rs t i) = 0 := by
  refine tell_ok (h.not_back hi) (fun j hj => ?_)
  unfold farAt
  cases hf : (S i).f j with
  | none => rfl
  | some k =>
    obtain ⟨_, _, _, a1, a2, a3, a4⟩ := h.age hi hf
    rw [(h.sN i hi).2.2]
    show (!rightB _ _) = false
    rw [rightB_iff.2 (by omega)]
    rfl
theorem TrueN.netC (h : TrueN n ss rs p t us S) : ∀ k, k ≤ n → netC (hereAt ss rs t) S k = 0
  | 0, _ => rfl
  | k + 1, hk => by
    show (if Go.Proofs.YtfjpfkejajgkbaaDoor.netC (hereAt ss rs t) S k = 0 then tellC (S k) (hereAt ss rs t k) else _) = 0
    rw [if_pos (h.netC k (by omega))]
    exact h.tell (by omega)
/-- an edge that is told is true. -/
theorem TrueN.edge (h : TrueN n ss rs p t us S) {e : REdge} (he : e ∈ netL (hereAt ss rs t) S n) : ∃ i j : Nat, e.a = i ∧ e.b = j ∧ i < n ∧ j < n ∧ i ≠ j ∧ e.lo ≤ hereAt ss rs t j - hereAt ss rs t i ∧ hereAt ss rs t j - hereAt ss rs t i ≤ e.hi ∧ -20000000000 ≤ e.lo ∧ e.hi ≤ 20000000000 := by
  obtain ⟨i, hi, he⟩ := List.mem_flatMap.1 he
  have hi := List.mem_range.1 hi
  unfold tellE at he
  rw [if_pos (h.tell hi)] at he
  obtain ⟨j, hj, he⟩ := List.mem_flatMap.1 he
  have hj := List.mem_range.1 hj
  rw [(h.sN i hi).1] at hj
  unfold edgeAt at he
  split at he
  · rename_i g
    rw [List.mem_singleton] at he
    subst he
    rw [(h.sN i hi).2.1] at g ⊢
    obtain ⟨g1, g2⟩ := g
    unfold hasAt at g1
    cases hf : (S i).f j with
    | none => rw [hf, (h.sN i hi).2.1] at g1; simp at g1; exact absurd g1 g2
    | some k =>
      obtain ⟨j', e1, e2, a1, a2, a3, a4⟩ := h.age hi hf
      obtain rfl : j = j' := by omega
      refine ⟨i, j, rfl, rfl, hi, hj, fun e => g2 e.symm, ?_⟩
      unfold spanAt
      rw [hf, (h.sN i hi).2.2]
      exact ⟨a1, a2, a3, a4⟩
  · simp at he
theorem edgesGo_all {N : Int} : ∀ {l : List REdge}, (∀ e ∈ l, edgeC N e = 0) → edgesGo N l = 0
  | [], _ => rfl
  | e :: l, h => by
    show (if edgeC N e = 0 then edgesGo N l else edgeC N e) = 0
    rw [if_pos (h e (by simp))]
    exact edgesGo_all fun x hx => h x (by simp [hx])
theorem TrueN.edgesC (h : TrueN n ss rs p t us S) (h1 : 1 ≤ n) : edgesC n (netL (hereAt ss rs t) S n) = 0 := by
  have h6 := h.C.n6
  have hl := netL_len (h := hereAt ss rs t) (S := S) (n := n) (fun i hi => (h.sN i hi).1) n (Nat.le_refl _)
  have hm := Nat.mul_le_mul h6 h6
  unfold Go.Proofs.YtfjpfkejajgkbaaDoor.edgesC
  rw [if_neg (by omega), if_neg (by omega)]
  refine edgesGo_all fun e he => ?_
  obtain ⟨i, j, e1, e2, hi, hj, hne, a1, a2, a3, a4⟩ := h.edge he
  unfold edgeC
  rw [if_pos ⟨nodeB_iff.2 (by omega), nodeB_iff.2 (by omega)⟩, if_neg (by omega), rightB_iff.2 (by omega)]
  rfl
/-- what the clocks show. -/
def shows (ss rs : List Int) (t : Int) (n : Nat) : List Int := (List.range n).map (hereAt ss rs t)
theorem shows_get {i : Nat} (hi : i < n) : (shows ss rs t n)[i]? = some (hereAt ss rs t i) := by unfold shows; rw [List.getElem?_map, List.getElem?_range hi]; rfl
theorem shows_getD {i : Nat} (hi : i < n) : (shows ss rs t n).getD i 0 = hereAt ss rs t i := by rw [List.getD_eq_getElem?_getD, shows_get hi]; rfl
theorem TrueN.fitsC (h : TrueN n ss rs p t us S) (h1 : 1 ≤ n) : fitsC n (netL (hereAt ss rs t) S n) (shows ss rs t n) = 0 := by
  unfold Go.Proofs.YtfjpfkejajgkbaaDoor.fitsC
  rw [if_pos (h.edgesC h1), if_pos (by simp [shows])]
  have : (shows ss rs t n).all timeB = true := by
    rw [List.all_eq_true]
    intro x hx
    obtain ⟨i, hi, rfl⟩ := List.mem_map.1 hx
    have := h.C.bd (List.mem_range.1 hi) h.t0 h.t1
    exact timeB_iff.2 (by omega)
  rw [this]
  rfl
theorem TrueN.fits (h : TrueN n ss rs p t us S) (h1 : 1 ≤ n) : fitsV n (netL (hereAt ss rs t) S n) (shows ss rs t n) = true := by
  unfold fitsV
  rw [h.fitsC h1]
  simp only [decide_true, Bool.true_and, List.all_eq_true]
  intro e he
  obtain ⟨i, j, e1, e2, hi, hj, hne, a1, a2, a3, a4⟩ := h.edge he
  unfold fitB
  rw [e1, e2]
  simp only [Bool.and_eq_true, decide_eq_true_eq, Int.toNat_natCast]
  rw [shows_getD hi, shows_getD hj]
  exact ⟨a1, a2⟩
theorem way_cost {A : Nat → Nat → Int → Prop} {W : Int} (hA : ∀ x y w, A x y w → -W ≤ w ∧ w ≤ W) {a b r : Nat} {c : Int} (h : Way A a b r c) : -((r : Int) * W) ≤ c ∧ c ≤ (r : Int) * W := by
  induction h with
  | start => simp
  | go _ hw ih =>
    have := hA _ _ _ hw
    rw [Int.natCast_succ, Int.add_mul]
    omega
/-- what is told of two clocks. -/
theorem TrueN.offset (h : TrueN n ss rs p t us S) (h1 : 1 ≤ n) {a b : Nat} (ha : a < n) (hb : b < n) {x : RSpan} {c : Int} (hO : OffS n (hereAt ss rs t) S a b x c) : c = 5 ∨ (c = 0 ∧ hasB x.lo x.hi (hereAt ss rs t b - hereAt ss rs t a) = true) := by
  have hnd : (nodeB (n : Int) (a : Int) && nodeB (n : Int) (b : Int)) = true := by rw [nodeB_iff.2 (by omega), nodeB_iff.2 (by omega)]; rfl
  rcases hO with ⟨h0, _⟩ | ⟨_, ⟨h0, _⟩ | ⟨_, hB⟩⟩
  · rw [hnd] at h0; cases h0
  · exact absurd (h.netC n (Nat.le_refl _)) h0
  · have hfit := h.fits h1
    have hA : ∀ x y w, Arc (netL (hereAt ss rs t) S n) x y w → x < n ∧ y < n := by
      rintro x y w ⟨e, he, hx⟩
      obtain ⟨i, j, e1, e2, hi, hj, _⟩ := h.edge he
      rcases hx with ⟨q1, q2, _⟩ | ⟨q1, q2, _⟩ <;> omega
    have hW : ∀ x y w, Arc (netL (hereAt ss rs t) S n) x y w → -20000000000 ≤ w ∧ w ≤ 20000000000 := by
      rintro x y w ⟨e, he, hx⟩
      obtain ⟨i, j, e1, e2, hi, hj, _, a1, a2, a3, a4⟩ := h.edge he
      have b1 := h.C.bd hi h.t0 h.t1
      have b2 := h.C.bd hj h.t0 h.t1
      rcases hx with ⟨_, _, q3⟩ | ⟨_, _, q3⟩ <;> omega
    have hns : ¬ Sunk (Arc (netL (hereAt ss rs t) S n)) n := fit_not_sunk hfit
    by_cases hc : c = 0
    · subst hc
      right
      obtain ⟨n', a', b', e1, e2, e3, hok⟩ := bet_ok hB
      obtain rfl : n = n' := by omega
      obtain rfl : a = a' := by omega
      obtain rfl : b = b' := by omega
      have := bet_in hok hfit
      rw [shows_getD ha, shows_getD hb] at this
      exact ⟨rfl, this⟩
    · left
      rcases hB with ⟨g, _⟩ | ⟨_, g, _⟩ | ⟨_, _, ⟨g, _⟩ | ⟨_, D, hD, ⟨⟨i, j, hi, hj, hT⟩, _⟩ | ⟨_, ⟨_, g, _⟩ | ⟨_, g, _⟩⟩⟩⟩
      · exact absurd (h.edgesC h1) g
      · rw [hnd] at g; cases g
      · simp only [Int.toNat_natCast] at g; exact absurd g hns
      · simp only [Int.toNat_natCast] at hi hj hD
        exfalso
        apply hT
        intro hf
        have near : ∀ u v, u < n → v < n → D u v < farI → timeB (D u v) = true ∧ timeB (-(D u v)) = true := by
          intro u v hu hv huv
          rcases hD u v hu hv with ⟨q, _⟩ | ⟨_, ⟨r, hr⟩, hmin⟩
          · have q' : decide (D u v < farI) = false := q
            rw [decide_eq_true huv] at q'; cases q'
          · rcases Way.short hA hu r v _ hr with ⟨r', c', q1, q2, q3⟩ | ⟨v', e', c', q1, q2, q3, q4⟩
            · have := hmin _ _ q3
              have hcost := way_cost hW q3
              have hn6 := h.C.n6
              have hr5 : (r' : Int) * 20000000000 ≤ 5 * 20000000000 := Int.mul_le_mul_of_nonneg_right (by omega) (by omega)
              exact ⟨timeB_iff.2 (by omega), timeB_iff.2 (by omega)⟩
            · exact absurd ⟨v', e', c', q1, q3, q4⟩ hns
        have hrev := tells_rev hD hi hj (decide_eq_true hf)
        exact ⟨(near i j hi hj hf).1, (near j i hj hi (of_decide_eq_true hrev)).2⟩
      · exact g
      · exact absurd g hc
/-- a new net is true. -/
theorem new_true {zs ys : List Int} (hc : newC zs ys p = 0) (hl : zs.length = n) : TrueN n zs ys p 0 [] (fun i => NSt.start n i p) := by
  obtain ⟨r1, r2, r3, r4, r5⟩ := newC_0 hc
  obtain ⟨p0, p1⟩ := rateB_iff.1 r1
  obtain ⟨sb, _⟩ := clocksB_get r5 r4 p1
  have rb := clocksB_rate r5 r4
  have gs : ∀ i, i < n → ∃ s, zs[i]? = some s := fun i hi => ⟨_, List.getElem?_eq_getElem (by omega)⟩
  have gr : ∀ i, i < n → ∃ s, ys[i]? = some s := fun i hi => ⟨_, List.getElem?_eq_getElem (by omega)⟩
  have C : Clocks n zs ys p := ⟨by omega, p0, p1, fun i hi => by obtain ⟨s, hs⟩ := gs i hi; rw [List.getD_eq_getElem?_getD, hs]; exact sb i s hs, fun i hi => by obtain ⟨s, hs⟩ := gr i hi; rw [List.getD_eq_getElem?_getD, hs]; exact rb i s hs⟩
  refine ⟨C, by omega, by omega, by simp, fun i hi => NSt.start_ok (by omega) (by omega) hi p0 p1, fun i hi => ⟨rfl, rfl, rfl⟩, fun i hi => ?_, fun i hi x k hk => by cases hk⟩
  have := C.bd (t := 0) hi (by omega) (by omega)
  show (-1 : Int) ≤ _
  omega
end Go.Proofs.YtfjpfkejajgkbaaDoor

/- A net of two, an ask and its answer: what it tells. No program stands here. -/
namespace Go.Proofs.YtfjpfkejajgkbaaDoor
open Go.RowKit
set_option linter.unusedVariables false
set_option linter.unusedSimpArgs false
theorem ex_new : newC [0, 100] [0, 0] 0 = 0 := by decide
def exL : List REdge := [⟨0, 1, 98, 104⟩]
theorem ex_arc : ∀ x y w, Arc exL x y w → (x = 0 ∧ y = 1 ∧ w = 104) ∨ (x = 1 ∧ y = 0 ∧ w = -98) := by
  rintro x y w ⟨e, he, hx⟩
  simp [exL] at he
  subst he
  rcases hx with ⟨h1, h2, h3⟩ | ⟨h1, h2, h3⟩
  · left; simp only [] at h1 h2 h3; omega
  · right; simp only [] at h1 h2 h3; omega
theorem ex_hi : ∀ {r c}, Way (Arc exL) 0 1 r c → 104 ≤ c := by
  intro r c h
  have := way_pot (p := fun i => if i = 1 then 104 else 0) (fun x y w hw => by rcases ex_arc x y w hw with ⟨rfl, rfl, rfl⟩ | ⟨rfl, rfl, rfl⟩ <;> simp) h
  simpa using this
theorem ex_lo : ∀ {r c}, Way (Arc exL) 1 0 r c → -98 ≤ c := by
  intro r c h
  have := way_pot (p := fun i => if i = 1 then 98 else 0) (fun x y w hw => by rcases ex_arc x y w hw with ⟨rfl, rfl, rfl⟩ | ⟨rfl, rfl, rfl⟩ <;> simp) h
  simpa using this
theorem ex_go : Way (Arc exL) 0 1 1 104 := .one ⟨_, List.mem_singleton.2 rfl, .inl ⟨rfl, rfl, rfl⟩⟩
theorem ex_back : Way (Arc exL) 1 0 1 (-98) := .one ⟨_, List.mem_singleton.2 rfl, .inr ⟨rfl, rfl, rfl⟩⟩
def exS0 (i : Nat) : NSt := NSt.start 2 i 0
def exS1 : Nat → NSt := updS exS0 1 ((exS0 1).heard 100)
def exS2 : Nat → NSt := updS exS1 0 ((exS1 0).learn 1 0 100 102)
def exU1 : List RLetter := [⟨0, 1, false, 0, 0, 0⟩]
def exU2 : List RLetter := [⟨1, 0, true, 0, 100, 100⟩]
theorem ex_ask : NAct 2 [0, 100] [0, 0] 0 [] exS0 ⟨2, 0, 1⟩ 0 0 exU1 exS0 :=
  .quiet _ _ _ _ (by
    have h := WAct.ask (n := 2) (ss := [0, 100]) (rs := [0, 0]) (t := 0) (us := []) 0 1 0 0 rfl rfl (by omega) (by omega) (by decide)
    exact h)
theorem ex_one : NAct 2 [0, 100] [0, 0] 0 exU1 exS0 ⟨3, 0, 0⟩ 0 0 exU2 exS1 := by
  have hw : WAct 2 [0, 100] [0, 0] 0 exU1 ⟨3, ((0 : Nat) : Int), 0⟩ 0 (some ⟨0, 1, false, 0, 0, 0⟩) 0 (exU1.eraseIdx 0) := WAct.deliver 0 _ 0 rfl
  have hh : Hears (exS0 1) ⟨0, 1, false, 0, 0, 0⟩ (readV 100 0 0) false 0 ((exS0 1).heard (readV 100 0 0)) := .ask (by decide) rfl (by decide) (by decide) (by decide) rfl
  have ha : WAns 2 [0, 100] [0, 0] 0 [] ⟨((0 : Nat) : Int), ((1 : Nat) : Int), false, 0, 0, 0⟩ 0 ([] ++ [⟨((1 : Nat) : Int), ((0 : Nat) : Int), true, 0, readV 100 0 0, readV 100 0 0⟩]) := WAns.ok 0 1 100 0 0 0 0 rfl rfl (by omega) (by decide)
  exact NAct.asked _ 0 [] exU2 ⟨0, 1, false, 0, 0, 0⟩ 1 100 0 false 0 _ hw rfl rfl rfl hh rfl ha
theorem ex_two : NAct 2 [0, 100] [0, 0] 0 exU2 exS1 ⟨3, 0, 0⟩ 0 0 [] exS2 := by
  have hw : WAct 2 [0, 100] [0, 0] 0 exU2 ⟨3, ((0 : Nat) : Int), 0⟩ 0 (some ⟨1, 0, true, 0, 100, 100⟩) 0 (exU2.eraseIdx 0) := WAct.deliver 0 _ 0 rfl
  have ho : offL ⟨1, 0, true, 0, 100, 100⟩ (readV 0 0 0) 0 = ⟨100, 102, 0⟩ := rfl
  have hh := Hears.first (s := exS1 0) (L := ⟨1, 0, true, 0, 100, 100⟩) (here := readV 0 0 0) (by decide) rfl (by decide) (by decide) (by decide) rfl (by show (offL ⟨1, 0, true, 0, 100, 100⟩ (readV 0 0 0) 0).c = 0; rw [ho]) rfl
  exact NAct.told _ 0 [] ⟨1, 0, true, 0, 100, 100⟩ 0 0 0 true _ hw rfl rfl rfl hh rfl
theorem ex_netL : netL (hereAt [0, 100] [0, 0] 0) exS2 2 = exL := by rfl
theorem ex_netC : netC (hereAt [0, 100] [0, 0] 0) exS2 2 = 0 := by decide
theorem ex_true : TrueN 2 [0, 100] [0, 0] 0 0 [] exS2 :=
  (nact_true (nact_true (nact_true (new_true ex_new rfl) rfl ex_ask).1 rfl ex_one).1 rfl ex_two).1
theorem ex_off {x : RSpan} {c : Int} (h : OffS 2 (hereAt [0, 100] [0, 0] 0) exS2 (0 : Int) (1 : Int) x c) : c = 0 ∧ x = ⟨98, 104⟩ := by
  have hO := ex_true.offset (by omega) (a := 0) (b := 1) (by omega) (by omega) h
  rcases h with ⟨h0, _⟩ | ⟨_, ⟨h0, _⟩ | ⟨_, hB⟩⟩
  · exact absurd h0 (by decide)
  · exact absurd ex_netC h0
  · rw [ex_netL] at hB
    have hc : c = 0 := by
      rcases hO with rfl | ⟨h1, _⟩
      · exfalso
        rcases hB with ⟨_, g, _⟩ | ⟨_, _, g, _⟩ | ⟨_, _, ⟨_, g, _⟩ | ⟨_, D, hD, ⟨_, g, _⟩ | ⟨_, ⟨g, _⟩ | ⟨_, g, _⟩⟩⟩⟩
        · exact absurd g (by decide)
        · omega
        · omega
        · omega
        · rcases hD 0 1 (by decide) (by decide) with ⟨_, q⟩ | ⟨q, _⟩
          · exact q _ _ ex_go
          · exact g (of_decide_eq_true q)
        · omega
      · exact h1
    subst hc
    obtain ⟨n, a, b, e1, e2, e3, hok⟩ := bet_ok hB
    obtain rfl : a = 0 := by omega
    obtain rfl : b = 1 := by omega
    have h1 := hok.hi.one ⟨⟨_, ex_go⟩, fun _ _ g => ex_hi g⟩
    have h2 := hok.lo.one ⟨⟨_, ex_back⟩, fun _ _ g => ex_lo g⟩
    refine ⟨rfl, ?_⟩
    obtain ⟨l, hh⟩ := x
    simp only [] at h1 h2
    subst h1
    have : l = 98 := by omega
    subst this
    rfl
theorem pair_ints {w : World} {g : Nat} {T : TypeId} {a b : Int} (h : Blk w g T #[.int .i64 a, .int .i64 b]) (ha : i64B a) (hb : i64B b) : IsInts w (some ⟨g, 0, none⟩) 2 2 [a, b] := by
  refine ⟨rfl, by omega, by unfold maxLen; omega, ?_, fun _ => ⟨g, 0, rfl, h.lt, fun i z hz j u hj => ?_⟩⟩
  · intro z hz
    simp at hz
    rcases hz with rfl | rfl <;> assumption
  · have hj0 : j = 0 := by
      have := (List.getElem?_eq_some_iff.1 hj).1
      simp [intCells] at this; omega
    subst hj0
    simp [intCells] at hj
    subst hj
    have hi : i < 2 := (List.getElem?_eq_some_iff.1 hz).1
    have hc : i = 0 ∨ i = 1 := by omega
    rw [h.cell]
    rcases hc with rfl | rfl <;> simp at hz <;> subst hz <;> rfl
/-- what a net may turn lies no lower than its world. -/
theorem NetAt.done {w0 w w' : World} {a : NAd} {ss rs : List Int} {p t : Int} {uv : Value} {us : List RLetter} {K : Nat} {S : Nat → NSt} (h : NetAt w a ss rs p t uv us K S) (hb : Below w0.heap.size w0 w) (hg : w0.heap.size ≤ a.g) (hK : Kept (NetMine a uv) w w') : Below w0.heap.size w0 w' := by
  have hgB := h.g_ne
  refine hb.trans (hK.toBelow hb.size (fun k e => ?_))
  rcases e with rfl | e | ⟨i, hi, e⟩
  · exact hg
  · have := (h.W.low k e).1; omega
  · have := h.ad.Bg i hi
    rcases e with rfl | rfl <;> omega
theorem shows_len (ss rs : List Int) (t : Int) (n : Nat) : (shows ss rs t n).length = n := by simp [shows]
theorem shows_succ (ss rs : List Int) (t : Int) (n : Nat) : shows ss rs t (n + 1) = shows ss rs t n ++ [hereAt ss rs t n] := by unfold shows; rw [List.range_succ, List.map_append]; rfl
theorem TrueN.shows_ok {n : Nat} {ss rs : List Int} {p t : Int} {us : List RLetter} {S : Nat → NSt} (h : TrueN n ss rs p t us S) : ∀ z ∈ shows ss rs t n, 0 ≤ z ∧ z ≤ 1002000000 := by
  intro z hz
  obtain ⟨i, hi, rfl⟩ := List.mem_map.1 hz
  exact h.C.bd (List.mem_range.1 hi) h.t0 h.t1
end Go.Proofs.YtfjpfkejajgkbaaDoor

/- Acts of a net of true clocks: who asks, and is answered, knows. No program stands here. -/
namespace Go.Proofs.YtfjpfkejajgkbaaDoor
open Go.RowKit
set_option linter.unusedVariables false
set_option linter.unusedSimpArgs false
variable {n : Nat} {ss rs : List Int} {p t : Int} {us : List RLetter} {S S' : Nat → NSt}
theorem clock_at (ls : ss.length = n) (lr : rs.length = n) {i : Nat} (hi : i < n) (t : Int) : ∃ s r, ss[i]? = some s ∧ rs[i]? = some r ∧ hereAt ss rs t i = readV s r t := by
  obtain ⟨s, hs⟩ : ∃ s, ss[i]? = some s := ⟨_, List.getElem?_eq_getElem (by omega)⟩
  obtain ⟨r, hr⟩ : ∃ s, rs[i]? = some s := ⟨_, List.getElem?_eq_getElem (by omega)⟩
  exact ⟨s, r, hs, hr, hereAt_eq hs hr⟩
theorem ask_act (ls : ss.length = n) (lr : rs.length = n) {i k : Nat} (hi : i < n) (hk : k < n) (hne : i ≠ k) : NAct n ss rs t [] S ⟨2, (i : Int), (k : Int)⟩ 0 t [⟨(i : Int), (k : Int), false, 0, 0, hereAt ss rs t i⟩] S := by
  obtain ⟨s, r, hs, hr, he⟩ := clock_at ls lr hi t
  rw [he]
  exact .quiet _ _ _ _ (WAct.ask (us := []) i k s r hs hr hk hne (by simp))
theorem go_act {a b : Int} (h0 : 0 ≤ a) (h1 : a ≤ 1000000) (h2 : t + a ≤ 1000000000) : NAct n ss rs t us S ⟨1, a, b⟩ 0 (t + a) us S := .quiet _ _ _ _ (.gone a b h0 h1 h2)
theorem told_ask (h : TrueN n ss rs p t us S) (ls : ss.length = n) (lr : rs.length = n) {i k : Nat} (hi : i < n) (hk : k < n) (hne : i ≠ k) (T : Int) :
    NAct n ss rs t [⟨(i : Int), (k : Int), false, 0, 0, T⟩] S ⟨3, 0, 0⟩ 0 t [⟨(k : Int), (i : Int), true, T, hereAt ss rs t k, hereAt ss rs t k⟩] (updS S k ((S k).heard (hereAt ss rs t k))) := by
  obtain ⟨s, r, hs, hr, he⟩ := clock_at ls lr hk t
  have hw : WAct n ss rs t [⟨(i : Int), (k : Int), false, 0, 0, T⟩] ⟨3, ((0 : Nat) : Int), 0⟩ 0 (some ⟨(i : Int), (k : Int), false, 0, 0, T⟩) t [] := WAct.deliver 0 _ 0 rfl
  have hb := h.not_back hk
  obtain ⟨s1, s2, s3⟩ := h.sN k hk
  rw [he] at hb ⊢
  have hh : Hears (S k) ⟨(i : Int), (k : Int), false, 0, 0, T⟩ (readV s r t) false 0 ((S k).heard (readV s r t)) := .ask hb (by rw [s2]) (by rw [s2]; show (i : Int) ≠ k; omega) (by show (0 : Int) ≤ i; omega) (by rw [s1]; show (i : Int) < n; omega) rfl
  have ha : WAns n ss rs t [] ⟨(i : Int), (k : Int), false, 0, 0, T⟩ 0 ([] ++ [⟨(k : Int), (i : Int), true, T, readV s r t, readV s r t⟩]) := WAns.ok i k s r 0 0 T hs hr hi (by simp)
  exact NAct.asked _ t [] _ _ k s r false 0 _ hw rfl hs hr hh rfl ha
theorem told_ans (ls : ss.length = n) (lr : rs.length = n) {L : RLetter} (h : TrueN n ss rs p t [L] S) {i k : Nat} (hi : i < n) (hk : k < n) (hne : i ≠ k) (hs' : L.src = k) (hd : L.dst = i) (ha : L.answer = true) :
    ∃ lo hi', NAct n ss rs t [L] S ⟨3, 0, 0⟩ 0 t [] (updS S i ((S i).learn k (hereAt ss rs t i) lo hi')) := by
  obtain ⟨s, r, hs, hr, he⟩ := clock_at ls lr hi t
  have hw : WAct n ss rs t [L] ⟨3, ((0 : Nat) : Int), 0⟩ 0 (some L) t [] := WAct.deliver 0 _ 0 rfl
  have hb := h.not_back hi
  obtain ⟨s1, s2, s3⟩ := h.sN i hi
  obtain ⟨hL, hT⟩ := h.L L (by simp)
  obtain ⟨o1, j, o2, o3, o4, o5, o6, o7⟩ := h.off hi hL hT hd ha
  have e1 : L.dst = (S i).id := by rw [s2, hd]
  have e2 : L.src ≠ (S i).id := by rw [s2, hs']; omega
  have e3 : 0 ≤ L.src := by rw [hs']; omega
  have e4 : L.src < (S i).N := by rw [s1, hs']; omega
  rw [← s3] at o1 o4 o5
  rw [← hs']
  cases hf : (S i).f L.src with
  | none =>
    have hh := Hears.first hb e1 e2 e3 e4 ha o1 hf
    rw [he] at hh ⊢
    exact ⟨_, _, NAct.told _ t [] L i s r true _ hw hd hs hr hh ha⟩
  | some kn =>
    obtain ⟨j', a0, a1, a2, a3, a4, a5⟩ := h.age hi hf
    obtain rfl : j = j' := by omega
    rw [← s3] at a2 a3
    have hh := Hears.more kn hb e1 e2 e3 e4 ha o1 hf (by unfold commonB; rw [decide_eq_true_eq]; omega)
    rw [he] at hh ⊢
    exact ⟨_, _, NAct.told _ t [] L i s r true _ hw hd hs hr hh ha⟩
/-- who is known. -/
def Known (S : Nat → NSt) (i : Nat) (x : Int) : Prop := ∃ k, (S i).f x = some k
theorem Known.learn {i : Nat} {x y here lo hi : Int} (h : Known S i y ∨ x = y) : Known (updS S i ((S i).learn x here lo hi)) i y := by
  unfold Known updS
  rw [if_pos rfl]
  show ∃ k, (if y = x then some (⟨lo, hi, here⟩ : Kn) else (S i).f y) = some k
  by_cases e : y = x
  · rw [if_pos e]; exact ⟨_, rfl⟩
  · rw [if_neg e]
    rcases h with h | h
    · exact h
    · exact absurd h.symm e
theorem Known.heard {i k : Nat} {y here : Int} (h : Known S i y) : Known (updS S k ((S k).heard here)) i y := by
  unfold Known updS
  by_cases e : i = k
  · subst e; rw [if_pos rfl]; exact h
  · rw [if_neg e]; exact h
theorem TrueN.edge_known (h : TrueN n ss rs p t us S) {i k : Nat} (hi : i < n) (hk : k < n) (hne : i ≠ k) (hK : Known S i k) : ∃ e ∈ netL (hereAt ss rs t) S n, e.a = i ∧ e.b = k := by
  obtain ⟨kn, hkn⟩ := hK
  obtain ⟨s1, s2, s3⟩ := h.sN i hi
  refine ⟨⟨(S i).id, k, (spanAt (S i) (hereAt ss rs t i) k).lo, (spanAt (S i) (hereAt ss rs t i) k).hi⟩, List.mem_flatMap.2 ⟨i, List.mem_range.2 hi, ?_⟩, by rw [s2], rfl⟩
  unfold tellE
  rw [if_pos (h.tell hi)]
  refine List.mem_flatMap.2 ⟨k, List.mem_range.2 (by rw [s1]; exact hk), ?_⟩
  unfold edgeAt
  rw [if_pos]
  · exact List.mem_singleton.2 rfl
  · refine ⟨?_, by rw [s2]; omega⟩
    unfold hasAt
    rw [hkn]
    (try simp)
theorem TrueN.offset_known (h : TrueN n ss rs p t us S) (h1 : 1 ≤ n) {a b : Nat} (ha : a < n) (hb : b < n) (hW : ∃ r c, Way (Arc (netL (hereAt ss rs t) S n)) a b r c) {x : RSpan} {c : Int} (hO : OffS n (hereAt ss rs t) S a b x c) : c = 0 ∧ hasB x.lo x.hi (hereAt ss rs t b - hereAt ss rs t a) = true := by
  rcases h.offset h1 ha hb hO with h5 | h5
  · exfalso
    rcases hO with ⟨_, g, _⟩ | ⟨_, ⟨g, _⟩ | ⟨_, hB⟩⟩
    · omega
    · exact absurd (h.netC n (Nat.le_refl _)) g
    · rcases hB with ⟨g, _⟩ | ⟨_, _, g, _⟩ | ⟨_, _, ⟨_, g, _⟩ | ⟨_, D, hD, ⟨_, g, _⟩ | ⟨_, ⟨g, _⟩ | ⟨_, g, _⟩⟩⟩⟩
      · exact absurd (h.edgesC h1) g
      · omega
      · omega
      · omega
      · simp only [Int.toNat_natCast] at g hD
        obtain ⟨r, c', w⟩ := hW
        rcases hD a b ha hb with ⟨_, q⟩ | ⟨q, _⟩
        · exact q _ _ w
        · exact g (of_decide_eq_true q)
      · omega
  · exact h5
end Go.Proofs.YtfjpfkejajgkbaaDoor

/- A clock that learns from a net of two true clocks, and labels that rise. No program stands here. -/
namespace Go.Proofs.YtfjpfkejajgkbaaDoor
open Go.RowKit
set_option linter.unusedVariables false
set_option linter.unusedSimpArgs false
theorem byP_bd0' {n p : Int} (h0 : 0 ≤ n) (h2 : 0 ≤ p) : 0 ≤ byP n p := by
  unfold byP
  exact (upD_bd (Int.mul_nonneg h0 h2) (by omega)).1
def flD (r t : Int) : Int := t * r / 1000000
def shw (r t : Int) : Int := t + flD r t
theorem fl_step {r p t d : Int} (h0 : 0 ≤ d) (hp : 0 ≤ p) (hq : p ≤ 1000) (r1 : -p ≤ r) (r2 : r ≤ p) :
    ∃ b, -(p * d) ≤ b ∧ b ≤ p * d ∧ flD r (t + d) = (t * r + b) / 1000000 ∧ 0 ≤ p * d ∧ p * d ≤ 1000 * d := by
  refine ⟨d * r, ?_, ?_, ?_, Int.mul_nonneg hp h0, Int.mul_le_mul_of_nonneg_right hq h0⟩
  · have := Int.mul_le_mul_of_nonneg_right r1 h0
    rw [Int.neg_mul] at this
    rw [Int.mul_comm d r]; exact this
  · have := Int.mul_le_mul_of_nonneg_right r2 h0
    rw [Int.mul_comm d r]; exact this
  · unfold flD; rw [Int.add_mul]
theorem shw_mono {r p t d : Int} (h0 : 0 ≤ d) (hp : 0 ≤ p) (hq : p ≤ 1000) (r1 : -p ≤ r) (r2 : r ≤ p) : shw r t ≤ shw r (t + d) := by
  obtain ⟨b, b1, b2, b3, b4, b5⟩ := fl_step (t := t) h0 hp hq r1 r2
  unfold shw
  rw [b3]
  unfold flD
  omega
theorem fl_bd {r p t : Int} (h0 : 0 ≤ t) (h1 : t ≤ 100000000) (hp : 0 ≤ p) (hq : p ≤ 1000) (r1 : -p ≤ r) (r2 : r ≤ p) : -100000 ≤ flD r t ∧ flD r t ≤ 100000 ∧ 0 ≤ shw r t := by
  obtain ⟨b, b1, b2, b3, b4, b5⟩ := fl_step (t := 0) h0 hp hq r1 r2
  have e : (0 : Int) + t = t := by omega
  rw [e] at b3
  unfold shw
  rw [b3]
  omega
theorem fl_within {r p t d : Int} (h0 : 0 ≤ d) (hp : 0 ≤ p) (hq : p ≤ 1000) (r1 : -p ≤ r) (r2 : r ≤ p) :
    flD r t - (1 + byP (shw r (t + d) - shw r t) (2 * p)) ≤ flD r (t + d) ∧ flD r (t + d) ≤ flD r t + (1 + byP (shw r (t + d) - shw r t) (2 * p)) := by
  obtain ⟨b, b1, b2, b3, b4, b5⟩ := fl_step (t := t) h0 hp hq r1 r2
  have hm := shw_mono (t := t) h0 hp hq r1 r2
  generalize hx : shw r (t + d) - shw r t = x
  have hx0 : 0 ≤ x := by omega
  have hxd : x = d + (flD r (t + d) - flD r t) := by unfold shw at hx; omega
  generalize hF : flD r (t + d) - flD r t = F
  rw [hF] at hxd
  have hb := byP_bd0' hx0 (show 0 ≤ 2 * p by omega)
  have hFa : F = (t * r + b) / 1000000 - t * r / 1000000 := by rw [← hF, b3]; rfl
  rcases Int.lt_or_le (d + 2 * F) 0 with hlt | hge
  · omega
  · have h2 := Int.mul_nonneg hge hp
    have e2 : x * (2 * p) = p * d + (d + 2 * F) * p := by
      subst hxd
      have a1 : (d + F) * (2 * p) = 2 * (d * p) + 2 * (F * p) := by rw [Int.add_mul, Int.mul_left_comm, Int.mul_left_comm F]
      have a2 : (d + 2 * F) * p = d * p + 2 * (F * p) := by rw [Int.add_mul, Int.mul_assoc]
      have a3 := Int.mul_comm p d
      omega
    have hu := upD_spec (a := x * (2 * p)) (b := 1000000) (by omega)
    unfold byP at hb ⊢
    omega
theorem byP_small {n q : Int} (h0 : 0 ≤ n) (h1 : n ≤ 200000000) (q0 : 0 ≤ q) (q1 : q ≤ 3000) : byP n q ≤ 600000 := by
  have hm := mul_bd h0 h1 q0 q1
  have hu := upD_mono hm.2 (show (1 : Int) ≤ 1000000 by omega)
  have hv : upD (200000000 * 3000) 1000000 = 600000 := rfl
  unfold byP
  omega
/-- the clock's state, behind so much true time. -/
structure SInv (start rate p T : Int) (c : CK) : Prop where
  t0 : 0 ≤ T
  ok : c.ok
  e1 : c.ppm = p
  e2 : c.here = shw rate T
  e6 : c.known = true → ∃ T0, 0 ≤ T0 ∧ T0 ≤ T ∧ c.at_ = shw rate T0 ∧ c.lo ≤ start - flD rate T0 ∧ start - flD rate T0 ≤ c.hi ∧ -200000000 ≤ c.lo ∧ c.hi ≤ 200000000
section
variable {start rate p T : Int} {c : CK}
theorem SInv.aged (h : SInv start rate p T c) (hl : c.known = true) (h1 : T ≤ 90000000) (hp : 0 ≤ p) (hq : p ≤ 1000) (r1 : -p ≤ rate) (r2 : rate ≤ p) :
    0 ≤ agedN c ∧ agedN c ≤ 700000 ∧ c.lo - agedN c ≤ start - flD rate T ∧ start - flD rate T ≤ c.hi + agedN c ∧ -200000000 ≤ c.lo ∧ c.hi ≤ 200000000 := by
  obtain ⟨T0, a0, a1, a2, a3, a4, a5, a6⟩ := h.e6 hl
  have hd := fl_within (t := T0) (d := T - T0) (by omega) hp hq r1 r2
  have e : T0 + (T - T0) = T := by omega
  rw [e] at hd
  have hg : agedN c = 1 + byP (shw rate T - shw rate T0) (2 * p) := by unfold agedN; rw [h.e1, h.e2, a2]
  rw [← hg] at hd
  have b1 := fl_bd (by omega) (by omega) hp hq r1 r2 (t := T)
  have b2 := fl_bd a0 (by omega) hp hq r1 r2 (t := T0)
  have hm := shw_mono (t := T0) (d := T - T0) (by omega) hp hq r1 r2
  rw [e] at hm
  have hx : shw rate T - shw rate T0 ≤ 200000000 := by unfold shw; omega
  have hw := byP_small (show 0 ≤ shw rate T - shw rate T0 by omega) hx (show (0:Int) ≤ 2 * p by omega) (show 2 * p ≤ 3000 by omega)
  have h0 := byP_bd0' (show 0 ≤ shw rate T - shw rate T0 by omega) (show (0:Int) ≤ 2 * p by omega)
  omega
theorem SInv.now (h : SInv start rate p T c) (hl : c.known = true) (h1 : T ≤ 90000000) (hp : 0 ≤ p) (hq : p ≤ 1000) (r1 : -p ≤ rate) (r2 : rate ≤ p) :
    ∃ l u, nowS c = ⟨l, u, 0⟩ ∧ l ≤ start + T ∧ start + T ≤ u ∧ -1000000000000 ≤ l ∧ u ≤ 400000000 := by
  obtain ⟨a0, a1, a2, a3, a4, a5⟩ := h.aged hl h1 hp hq r1 r2
  have b := fl_bd h.t0 (by omega) hp hq r1 r2
  have hh : c.here = T + flD rate T := h.e2
  have ht := h.t0
  refine ⟨c.lo - agedN c + c.here, c.hi + agedN c + c.here, ?_, by omega, by omega, by omega, by omega⟩
  unfold nowS
  rw [if_pos hl]
  unfold whole
  rw [if_pos (rightB_iff.2 (by omega))]
theorem SInv.step {v : Int} (h : SInv start rate p T c) (h1 : T + v ≤ 90000000) (hp : 0 ≤ p) (hq : p ≤ 1000) (r1 : -p ≤ rate) (r2 : rate ≤ p) (v0 : 0 ≤ v) :
    stepC c (shw rate (T + v)) = 0 ∧ SInv start rate p (T + v) (stepK c (shw rate (T + v))) := by
  have b := fl_bd (t := T + v) (by have := h.t0; omega) (by omega) hp hq r1 r2
  have hm := shw_mono (t := T) v0 hp hq r1 r2
  have e2 := h.e2
  have ht := h.t0
  have hs : shw rate (T + v) = T + v + flD rate (T + v) := rfl
  have e : stepC c (shw rate (T + v)) = 0 := by unfold stepC; rw [if_neg (by omega), if_neg (by omega)]
  refine ⟨e, ?_⟩
  unfold stepK
  rw [if_pos e]
  obtain ⟨k1, k2, k3, k4, k5, k6, k7, k8, k9, k10⟩ := h.ok
  exact ⟨by omega, ⟨k1, k2, k3, by simp only []; omega, by simp only []; omega, k6, k7, k8, k9, k10⟩, h.e1, rfl, fun hl => by
    obtain ⟨T0, a0, a1, a2⟩ := h.e6 hl
    exact ⟨T0, a0, by omega, a2⟩⟩
theorem SInv.learn {lo hi : Int} (h : SInv start rate p T c) (h1 : T ≤ 90000000) (hp : 0 ≤ p) (hq : p ≤ 1000) (r1 : -p ≤ rate) (r2 : rate ≤ p)
    (b1 : lo ≤ start - flD rate T) (b2 : start - flD rate T ≤ hi) (b3 : -200000000 ≤ lo) (b4 : hi ≤ 200000000) :
    learnC c lo hi = 0 ∧ SInv start rate p T (learnK c lo hi) ∧ (learnK c lo hi).known = true := by
  have b := fl_bd h.t0 (by omega) hp hq r1 r2
  have hr : rightB lo hi = true := rightB_iff.2 (by omega)
  obtain ⟨k1, k2, k3, k4, k5, k6, k7, k8, k9, k10⟩ := h.ok
  have ht := h.t0
  cases hk : c.known with
  | false =>
    have e : learnC c lo hi = 0 := by unfold learnC; rw [if_pos hr, if_neg (by rw [hk]; simp)]
    refine ⟨e, ?_⟩
    unfold learnK
    rw [if_pos e, if_neg (by rw [hk]; simp)]
    exact ⟨⟨ht, ⟨k1, k2, by simp only []; omega, by simp, k5, by simp only []; omega, by simp only []; omega, by simp only []; omega, k9, k10⟩, h.e1, h.e2, fun _ => ⟨T, ht, by omega, h.e2, b1, b2, b3, b4⟩⟩, rfl⟩
  | true =>
    obtain ⟨a0, a1, a2, a3, a4, a5⟩ := h.aged hk h1 hp hq r1 r2
    obtain ⟨l, u, n0, n1, n2, n3, n4⟩ := h.now hk h1 hp hq r1 r2
    have e : learnC c lo hi = 0 := by
      unfold learnC
      rw [if_pos hr, if_pos hk, n0, if_pos rfl, if_pos (by unfold commonB; simp only [decide_eq_true_eq]; omega)]
    refine ⟨e, ?_⟩
    unfold learnK
    rw [if_pos e, if_pos hk]
    exact ⟨⟨ht, ⟨k1, k2, by simp only []; omega, by simp, k5, by simp only []; omega, by simp only []; omega, by simp only []; omega, k9, k10⟩, h.e1, h.e2, fun _ => ⟨T, ht, by omega, h.e2, by simp only []; omega, by simp only []; omega, by simp only []; omega, by simp only []; omega⟩⟩, rfl⟩
theorem SInv.point (h : SInv start rate p T c) (hl : c.known = true) (h1 : T ≤ 90000000) (hp : 0 ≤ p) (hq : p ≤ 1000) (r1 : -p ≤ rate) (r2 : rate ≤ p) (s0 : 0 ≤ start) :
    (pointC c ≠ 0 ∨ (pointC c = 0 ∧ pointV c ≤ 400000000)) ∧ SInv start rate p T (pointK c) := by
  obtain ⟨l, u, n0, n1, n2, n3, n4⟩ := h.now hl h1 hp hq r1 r2
  obtain ⟨k1, k2, k3, k4, k5, k6, k7, k8, k9, k10⟩ := h.ok
  have hm : midV c = (l + u) / 2 := by simp [midV, n0]
  have ht := h.t0
  by_cases q : u < pointN c
  · have e : pointC c = 8 := by unfold pointC; rw [n0, if_pos rfl, if_pos q]
    exact ⟨.inl (by omega), by unfold pointK; rw [if_neg (by omega)]; exact h⟩
  · have e : pointC c = 0 := by unfold pointC; rw [n0, if_pos rfl, if_neg q]
    have ev : pointV c = pointN c := by unfold pointV; rw [if_pos e]
    have lo : -1000000000000 ≤ pointN c := by
      unfold pointN
      split <;> omega
    refine ⟨.inr ⟨e, by omega⟩, ?_⟩
    unfold pointK
    rw [if_pos e]
    exact ⟨h.t0, ⟨k1, k2, k3, k4, k5, k6, k7, k8, lo, by simp only []; omega⟩, h.e1, h.e2, fun _ => h.e6 hl⟩
theorem SInv.init (start rate : Int) (hp : 0 ≤ p) (hq : p ≤ 1000) : SInv start rate p 0 ⟨p, 0, false, 0, 0, 0, false, 0⟩ :=
  ⟨by omega, ⟨hp, hq, by simp, by simp, by simp, by simp, by simp, by simp, by simp, by simp⟩, rfl, by simp [shw, flD], by simp⟩
end
/-- the clocks of the law. -/
theorem here_0 {start rate T : Int} : hereAt [0, start] [rate, 0] T 0 = shw rate T := by
  show readV 0 rate T = _
  unfold readV shw flD
  omega
theorem here_1 {start rate T : Int} : hereAt [0, start] [rate, 0] T 1 = start + T := by
  show readV start 0 T = _
  unfold readV
  rw [Int.mul_zero]
  simp
/-- who hears an answer knows no more than it says. -/
theorem told_ans2 {n : Nat} {ss rs : List Int} {p t : Int} {S : Nat → NSt} (ls : ss.length = n) (lr : rs.length = n) {L : RLetter} (h : TrueN n ss rs p t [L] S) {i k : Nat} (hi : i < n) (hk : k < n) (hne : i ≠ k) (hs' : L.src = k) (hd : L.dst = i) (ha : L.answer = true) :
    ∃ lo hi', NAct n ss rs t [L] S ⟨3, 0, 0⟩ 0 t [] (updS S i ((S i).learn k (hereAt ss rs t i) lo hi')) ∧ (offL L (hereAt ss rs t i) p).lo ≤ lo ∧ hi' ≤ (offL L (hereAt ss rs t i) p).hi ∧ (offL L (hereAt ss rs t i) p).c = 0 := by
  obtain ⟨s, r, hs, hr, he⟩ := clock_at ls lr hi t
  have hw : WAct n ss rs t [L] ⟨3, ((0 : Nat) : Int), 0⟩ 0 (some L) t [] := WAct.deliver 0 _ 0 rfl
  have hb := h.not_back hi
  obtain ⟨s1, s2, s3⟩ := h.sN i hi
  obtain ⟨hL, hT⟩ := h.L L (by simp)
  obtain ⟨o1, j, o2, o3, o4, o5, o6, o7⟩ := h.off hi hL hT hd ha
  have e1 : L.dst = (S i).id := by rw [s2, hd]
  have e2 : L.src ≠ (S i).id := by rw [s2, hs']; omega
  have e3 : 0 ≤ L.src := by rw [hs']; omega
  have e4 : L.src < (S i).N := by rw [s1, hs']; omega
  rw [← s3] at o1 o4 o5 ⊢
  rw [← hs']
  cases hf : (S i).f L.src with
  | none =>
    have hh := Hears.first hb e1 e2 e3 e4 ha o1 hf
    refine ⟨(offL L (hereAt ss rs t i) (S i).p).lo, (offL L (hereAt ss rs t i) (S i).p).hi, ?_, Int.le_refl _, Int.le_refl _, o1⟩
    rw [he] at hh ⊢
    exact NAct.told _ t [] L i s r true _ hw hd hs hr hh ha
  | some kn =>
    obtain ⟨j', a0, a1, a2, a3, a4, a5⟩ := h.age hi hf
    obtain rfl : j = j' := by omega
    rw [← s3] at a2 a3
    have hh := Hears.more kn hb e1 e2 e3 e4 ha o1 hf (by unfold commonB; rw [decide_eq_true_eq]; omega)
    refine ⟨max (ageL kn (S i).p (hereAt ss rs t i)) (offL L (hereAt ss rs t i) (S i).p).lo, min (ageH kn (S i).p (hereAt ss rs t i)) (offL L (hereAt ss rs t i) (S i).p).hi, ?_, by omega, by omega, o1⟩
    rw [he] at hh ⊢
    exact NAct.told _ t [] L i s r true _ hw hd hs hr hh ha
/-- what is told is no wider than the edge. -/
theorem off_edge {n : Nat} {ss rs : List Int} {t : Int} {S : Nat → NSt} {a b : Nat} {e : REdge} (he : e ∈ netL (hereAt ss rs t) S n) (ha : e.a = a) (hb : e.b = b) {x : RSpan} (hO : OffS n (hereAt ss rs t) S a b x 0) : e.lo ≤ x.lo ∧ x.hi ≤ e.hi := by
  rcases hO with ⟨_, h0, _⟩ | ⟨_, ⟨h0, h1, _⟩ | ⟨_, hB⟩⟩
  · cases h0
  · exact absurd h1.symm h0
  · obtain ⟨n', a', b', e1, e2, e3, hok⟩ := bet_ok hB
    obtain rfl : a = a' := by omega
    obtain rfl : b = b' := by omega
    have h1 := hok.hi.2 1 e.hi (.one ⟨e, he, .inl ⟨ha, hb, rfl⟩⟩)
    have h2 := hok.lo.2 1 (-e.lo) (.one ⟨e, he, .inr ⟨hb, ha, rfl⟩⟩)
    omega
/-- the label of a second, where there was no leap. -/
def Lab (x : Int) (z : RLabel) : Prop := ∃ d y m dd, 0 ≤ d ∧ d ≤ 84005 ∧ beginL [] d ≤ x ∧ x < beginL [] (d + 1) ∧ dateB y m dd = true ∧ numD y m dd = d ∧ z = labOf y m dd (x - beginL [] d)
theorem leap_nil : LeapGood [] := leapsC_0 rfl
theorem lab_total {x : Int} (h0 : 0 ≤ x) (h1 : x ≤ 7000000000) : ∃ z, Lab x z ∧ labB z = true := by
  have e : ∀ d, beginL [] d = 86400 * d + 0 := fun d => rfl
  obtain ⟨d, d0, d1, k1, k2⟩ := day_of leap_nil h0 (by rw [e]; omega)
  obtain ⟨y, m, dd, hd, hn⟩ := date_of d0 d1
  obtain ⟨s0, s1, _⟩ := sec_bd leap_nil k1 k2
  exact ⟨_, ⟨d, y, m, dd, d0, d1, k1, k2, hd, hn, rfl⟩, labOf_ok hd s0 s1⟩
theorem lab_up {x y : Int} {a b : RLabel} (ha : Lab x a) (hb : Lab y b) (va : labB a = true) (vb : labB b = true) (hxy : x < y) : Op.bytesLess (labT b) (labT a) = false ∧ (labT b == labT a) = false := by
  obtain ⟨d, y1, m1, d1, _, _, k1, k2, hd, hn, rfl⟩ := ha
  obtain ⟨e, y2, m2, d2, _, _, j1, j2, hd', hn', rfl⟩ := hb
  exact text_order va vb (lab_lex leap_nil hxy k1 k2 j1 j2 hd hn hd' hn')
end Go.Proofs.YtfjpfkejajgkbaaDoor

/- Two rows of a call's own beside a net. -/
namespace Go.Proofs.YtfjpfkejajgkbaaDoor
open Go.RowKit
set_option linter.unusedVariables false
set_option linter.unusedSimpArgs false
theorem own_keptP {P : Nat → Prop} {w w' : World} {B : Nat} {T : TypeId} {k n : Nat} {v : Value} {xs : List Value} (h : w.ownsRow B T k v n xs) (hK : Kept P w w') (hP : ∀ q, v.ownBlock = some q → ¬ P q) : w'.ownsRow B T k v n xs := by
  have hlt := h.lt
  refine ⟨h.1, ?_⟩
  rcases h.2 with e | ⟨g, cap, cur, rfl, hB, hg, hn, hm, hs, ht⟩
  · exact .inl e
  · exact .inr ⟨g, cap, cur, rfl, hB, (hK.block g (hlt g rfl).2 (hP g rfl)).trans hg, hn, hm, hs, ht⟩
/-- where a net's fixed blocks lie. -/
structure FixB (a : NAd) (C : Nat) : Prop where
  N : a.N < C
  q : a.q < C
  B : a.B ≤ C
  g : a.g < C
  n : ∀ i, i < a.n → a.gi i < C ∧ a.mb i < C
variable {w w' : World} {a : NAd} {ss rs : List Int} {p t t' : Int} {uv uv' : Value} {us us' : List RLetter} {K K' : Nat} {S : Nat → NSt}
theorem NetAt.fix (h : NetAt w a ss rs p t uv us K S) : FixB a w.heap.size :=
  ⟨h.net.lt, h.ql, h.W.Bw, Nat.lt_of_lt_of_le h.W.gB h.W.Bw, fun i hi => ⟨(h.nd i hi).blk.lt, (h.nd i hi).mp.lt⟩⟩
theorem NetAt.kept {P : Nat → Prop} {C : Nat} (h : NetAt w a ss rs p t uv us K S) (hK : Kept P w w') (f : FixB a C) (hP : ∀ q, P q → C ≤ q ∧ uv.ownBlock ≠ some q) : NetAt w' a ss rs p t uv us K S := by
  have hn : ∀ q, q < C → ¬ P q := fun q hq e => by have := (hP q e).1; omega
  exact ⟨(hK.block a.N h.net.lt (hn _ f.N)).trans h.net, h.W.other hK (fun k e => ⟨by have := (hP k e).1; have := f.B; omega, (hP k e).2⟩), fun i hi => (World.cell?_of_block (hK.block a.q h.ql (hn _ f.q))).trans (h.row i hi), Nat.lt_of_lt_of_le h.ql hK.size, h.nc, fun i hi => (h.nd i hi).other hK (hn _ (f.n i hi).1) (hn _ (f.n i hi).2), h.sN, h.ad, h.du, h.has⟩
theorem grown_kept {w w' : World} {row : Option Nat} (hg : w.grownBy w' row) : Kept (fun k => row = some k) w w' :=
  (Kept.refl _ w).grown hg (fun k e => .inl e)
/-- a row of the call's own grows: the net stays. -/
theorem NetAt.grown {row : Option Nat} (h : NetAt w a ss rs p t uv us K S) (hg : w.grownBy w' row) {B : Nat} (f : FixB a B) (hB : ∀ q, row = some q → B ≤ q ∧ uv.ownBlock ≠ some q) : NetAt w' a ss rs p t uv us K S :=
  h.kept (grown_kept hg) f hB
end Go.Proofs.YtfjpfkejajgkbaaDoor

/- One round of a served clock: ask, answer, and what is told then; what stays beside a net. -/
namespace Go.Proofs.YtfjpfkejajgkbaaDoor
open Go.RowKit
set_option linter.unusedVariables false
set_option linter.unusedSimpArgs false
theorem offS_val {t1 t2 t3 t4 p : Int} (h : (offS t1 t2 t3 t4 p).c = 0) : (offS t1 t2 t3 t4 p).lo = t3 - t4 ∧ (offS t1 t2 t3 t4 p).hi = offHi t1 t2 t4 p := by
  unfold offS at h ⊢
  split at h
  · rename_i g
    rw [if_pos g]
    split at h
    · rename_i g2
      rw [if_pos g2]
      split at h
      · rename_i g3
        rw [if_pos g3]
        split at h
        · rename_i g4
          rw [if_pos g4]
          exact ⟨rfl, rfl⟩
        · simp at h
      · simp at h
    · simp at h
  · rename_i g; simp at h; exact absurd h g
theorem TrueN.edge_known2 {n : Nat} {ss rs : List Int} {p t : Int} {us : List RLetter} {S : Nat → NSt} (h : TrueN n ss rs p t us S) {i k : Nat} (hi : i < n) (hk : k < n) (hne : i ≠ k) {kn : Kn} (hkn : (S i).f k = some kn) : ∃ e ∈ netL (hereAt ss rs t) S n, e.a = i ∧ e.b = k ∧ e.lo = ageL kn p (hereAt ss rs t i) ∧ e.hi = ageH kn p (hereAt ss rs t i) := by
  obtain ⟨s1, s2, s3⟩ := h.sN i hi
  refine ⟨⟨(S i).id, k, (spanAt (S i) (hereAt ss rs t i) k).lo, (spanAt (S i) (hereAt ss rs t i) k).hi⟩, List.mem_flatMap.2 ⟨i, List.mem_range.2 hi, ?_⟩, by rw [s2], rfl, ?_, ?_⟩
  · unfold tellE
    rw [if_pos (h.tell hi)]
    refine List.mem_flatMap.2 ⟨k, List.mem_range.2 (by rw [s1]; exact hk), ?_⟩
    unfold edgeAt
    rw [if_pos]
    · exact List.mem_singleton.2 rfl
    · refine ⟨?_, by rw [s2]; omega⟩
      unfold hasAt
      rw [hkn]
      (try simp)
  · unfold spanAt; rw [hkn, s3]
  · unfold spanAt; rw [hkn, s3]
theorem serve_round {n : Nat} {start rate p t g : Int} {S : Nat → NSt} (hn : n = 2) (h : TrueN n [0, start] [rate, 0] p t [] S) (g0 : 0 ≤ g) (g1 : g ≤ 1000000) (ht : t + g ≤ 90000000) :
    ∃ (S1 S2 : Nat → NSt) (us1 us2 : List RLetter), NAct n [0, start] [rate, 0] t [] S ⟨2, 0, 1⟩ 0 t us1 S ∧ NAct n [0, start] [rate, 0] t us1 S ⟨3, 0, 0⟩ 0 t us2 S1 ∧ NAct n [0, start] [rate, 0] t us2 S1 ⟨1, g, 0⟩ 0 (t + g) us2 S1 ∧ NAct n [0, start] [rate, 0] (t + g) us2 S1 ⟨3, 0, 0⟩ 0 (t + g) [] S2 ∧
      TrueN n [0, start] [rate, 0] p (t + g) [] S2 ∧ ∀ x c, OffS n (hereAt [0, start] [rate, 0] (t + g)) S2 0 1 x c → c = 0 ∧ x.lo ≤ start - flD rate (t + g) ∧ start - flD rate (t + g) ≤ x.hi ∧ -200000000 ≤ x.lo ∧ x.hi ≤ 200000000 := by
  have ls : ([0, start] : List Int).length = n := by rw [hn]; rfl
  have lr : ([rate, 0] : List Int).length = n := by rw [hn]; rfl
  have h0n : 0 < n := by omega
  have h1n : 1 < n := by omega
  have q1 : NAct n [0, start] [rate, 0] t [] S ⟨2, 0, 1⟩ 0 t [⟨0, 1, false, 0, 0, hereAt [0, start] [rate, 0] t 0⟩] S := ask_act ls lr (i := 0) (k := 1) h0n h1n (by omega)
  have T1 := (nact_true h ls q1).1
  have q2 : NAct n [0, start] [rate, 0] t [⟨0, 1, false, 0, 0, hereAt [0, start] [rate, 0] t 0⟩] S ⟨3, 0, 0⟩ 0 t [⟨1, 0, true, hereAt [0, start] [rate, 0] t 0, hereAt [0, start] [rate, 0] t 1, hereAt [0, start] [rate, 0] t 1⟩] (updS S 1 ((S 1).heard (hereAt [0, start] [rate, 0] t 1))) := told_ask T1 ls lr (i := 0) (k := 1) h0n h1n (by omega) _
  have T2 := (nact_true T1 ls q2).1
  obtain ⟨S1, eS1⟩ : ∃ S1, updS S 1 ((S 1).heard (hereAt [0, start] [rate, 0] t 1)) = S1 := ⟨_, rfl⟩
  rw [eS1] at q2 T2
  have ht0 := h.t0
  have q3 : NAct n [0, start] [rate, 0] t [⟨1, 0, true, hereAt [0, start] [rate, 0] t 0, hereAt [0, start] [rate, 0] t 1, hereAt [0, start] [rate, 0] t 1⟩] S1 ⟨1, g, 0⟩ 0 (t + g) [⟨1, 0, true, hereAt [0, start] [rate, 0] t 0, hereAt [0, start] [rate, 0] t 1, hereAt [0, start] [rate, 0] t 1⟩] S1 := go_act g0 g1 (by omega)
  have T3 := (nact_true T2 ls q3).1
  obtain ⟨lo, hi', q4, o1, o2, o3⟩ := told_ans2 ls lr T3 (i := 0) (k := 1) h0n h1n (by omega) rfl rfl rfl
  have T4 := (nact_true T3 ls q4).1
  refine ⟨_, _, _, _, q1, q2, q3, q4, T4, fun x c hO => ?_⟩
  have hk : ((updS S1 0 ((S1 0).learn ((1 : Nat) : Int) (hereAt [0, start] [rate, 0] (t + g) 0) lo hi')) 0).f ((1 : Nat) : Int) = some ⟨lo, hi', hereAt [0, start] [rate, 0] (t + g) 0⟩ := by
    unfold updS
    rw [if_pos rfl]
    show (if ((1 : Nat) : Int) = ((1 : Nat) : Int) then some (⟨lo, hi', hereAt [0, start] [rate, 0] (t + g) 0⟩ : Kn) else (S1 0).f ((1 : Nat) : Int)) = _
    rw [if_pos rfl]
  obtain ⟨e, he, ea, eb, el, eh⟩ := T4.edge_known2 h0n h1n (by omega) hk
  have hw : ∃ r c, Way (Arc (netL (hereAt [0, start] [rate, 0] (t + g)) (updS S1 0 ((S1 0).learn ((1 : Nat) : Int) (hereAt [0, start] [rate, 0] (t + g) 0) lo hi')) n)) 0 1 r c := ⟨1, e.hi, .one ⟨e, he, .inl ⟨ea, eb, rfl⟩⟩⟩
  obtain ⟨rfl, hB⟩ := T4.offset_known (by omega) h0n h1n hw (a := 0) (b := 1) hO
  obtain ⟨x1, x2⟩ := off_edge (a := 0) (b := 1) he ea eb hO
  obtain ⟨v1, v2⟩ := offS_val (t1 := hereAt [0, start] [rate, 0] t 0) (t2 := hereAt [0, start] [rate, 0] t 1) (t3 := hereAt [0, start] [rate, 0] t 1) (t4 := hereAt [0, start] [rate, 0] (t + g) 0) (p := p) o3
  have o1' : (offS (hereAt [0, start] [rate, 0] t 0) (hereAt [0, start] [rate, 0] t 1) (hereAt [0, start] [rate, 0] t 1) (hereAt [0, start] [rate, 0] (t + g) 0) p).lo ≤ lo := o1
  have o2' : hi' ≤ (offS (hereAt [0, start] [rate, 0] t 0) (hereAt [0, start] [rate, 0] t 1) (hereAt [0, start] [rate, 0] t 1) (hereAt [0, start] [rate, 0] (t + g) 0) p).hi := o2
  rw [v1] at o1'
  rw [v2] at o2'
  have hs : 0 ≤ start ∧ start ≤ 1000000 := h.C.s 1 h1n
  have hr : -p ≤ rate ∧ rate ≤ p := h.C.r 0 h0n
  have hp0 := h.C.p0
  have hp1 := h.C.p1
  unfold hasB at hB
  simp only [Bool.and_eq_true, decide_eq_true_eq] at hB
  rw [here_0, here_1] at hB o2'
  rw [here_0] at o2' el eh
  rw [here_0, here_1] at o1'
  have b1 := fl_bd (t := t + g) (by omega) (by omega) hp0 hp1 hr.1 hr.2
  have b0 := fl_bd (t := t) (by omega) (by omega) hp0 hp1 hr.1 hr.2
  have hm := shw_mono (t := t) g0 hp0 hp1 hr.1 hr.2
  have hd1 : shw rate (t + g) = t + g + flD rate (t + g) := rfl
  have hd0 : shw rate t = t + flD rate t := rfl
  have s1 := byP_small (show 0 ≤ shw rate (t + g) - shw rate t by omega) (by omega) (show (0:Int) ≤ 3 * p by omega) (show 3 * p ≤ 3000 by omega)
  have s2 := byP_small (n := shw rate (t + g) - shw rate (t + g)) (by omega) (by omega) (show (0:Int) ≤ 3 * p by omega) (show 3 * p ≤ 3000 by omega)
  unfold ageL at el
  unfold ageH at eh
  unfold offHi at o2'
  unfold slackD at el eh o2'
  simp only [] at el eh
  refine ⟨rfl, by omega, by omega, by omega, by omega⟩
theorem serve_clock {start rate p T : Int} {c : CK} {lo hi : Int} (h : SInv start rate p T c) (hT : T ≤ 90000000) (hp : 0 ≤ p ∧ p ≤ 1000) (hr : -p ≤ rate ∧ rate ≤ p) (s0 : 0 ≤ start)
    (o1 : lo ≤ start - flD rate T) (o2 : start - flD rate T ≤ hi) (o3 : -200000000 ≤ lo) (o4 : hi ≤ 200000000) :
    learnC c lo hi = 0 ∧ (learnK c lo hi).ok ∧ (∃ l u, nowS (learnK c lo hi) = ⟨l, u, 0⟩ ∧ rightB l u = true ∧ hasB l u (start + T) = true) ∧
      (pointC (learnK c lo hi) ≠ 0 ∨ (pointC (learnK c lo hi) = 0 ∧ pointV (learnK c lo hi) ≤ 400000000)) ∧ SInv start rate p T (pointK (learnK c lo hi)) := by
  obtain ⟨e, h2, hk⟩ := h.learn hT hp.1 hp.2 hr.1 hr.2 o1 o2 o3 o4
  obtain ⟨l, u, a, b, c', d, e'⟩ := h2.now hk hT hp.1 hp.2 hr.1 hr.2
  obtain ⟨f, g⟩ := h2.point hk hT hp.1 hp.2 hr.1 hr.2 s0
  have r : rightB l u = true := rightB_iff.2 (by omega)
  refine ⟨e, h2.ok, ⟨l, u, a, r, ?_⟩, f, g⟩
  unfold hasB
  rw [r, decide_eq_true b, decide_eq_true c']
  rfl
theorem serve_keep {la ke wn ah pv : Int} {k : Nat} (h1 : -1 ≤ la) (h2 : la ≤ 400000000 + (k : Int)) (h3 : 0 ≤ wn) (h4 : wn ≤ (k : Int)) (hp : pv ≤ 400000000) (hp0 : ¬ pv < 0) (hk : k < 20) :
    (la ≤ 1000001000000 ∧ wn ≤ 1000000 ∧ 0 ≤ pv ∧ tellN la pv ≤ 1000000000000) ∧ la < tellN la pv ∧ pv ≤ tellN la pv ∧ 0 ≤ tellN la pv ∧ tellN la pv ≤ 7000000000 ∧ -1 ≤ tellN la pv ∧ tellN la pv ≤ 400000000 + ((k + 1 : Nat) : Int) ∧ 0 ≤ wroteN la ke wn pv ∧ wroteN la ke wn pv ≤ ((k + 1 : Nat) : Int) := by
  unfold tellN wroteN
  refine ⟨by omega, by omega, by omega, by omega, by omega, by omega, by omega, ?_, ?_⟩
  · split <;> omega
  · split <;> omega
/-- a label, if there is one. -/
def LabS (la : Int) (ll : List UInt8) : Prop := (la = -1 ∧ ll = []) ∨ (0 ≤ la ∧ ∃ z, Lab la z ∧ labB z = true ∧ ll = labT z)
theorem LabS.up {la x : Int} {ll : List UInt8} {z : RLabel} (h : LabS la ll) (hx : la < x) (hz : Lab x z) (vz : labB z = true) : Op.bytesLess (labT z) ll = false ∧ (labT z == ll) = false := by
  rcases h with ⟨_, rfl⟩ | ⟨_, y, hy, vy, rfl⟩
  · exact ⟨rfl, rfl⟩
  · exact lab_up hy hz vy vz hx
/-- what stays beside a net. -/
structure Rest (w : World) (gk gc : Nat) (ah la ke wn : Int) (c : CK) (uv : Value) : Prop where
  k : KeepAt w gk ah la ke wn
  c : ClockAt w gc 92 c
  uk : uv.ownBlock ≠ some gk
  uc : uv.ownBlock ≠ some gc
  ne : gk ≠ gc
variable {w w' : World} {gk gc : Nat} {ah la ke wn la' ke' wn' : Int} {c c' : CK} {uv uv' : Value} {a : NAd} {C : Nat}
theorem Rest.below (h : Rest w gk gc ah la ke wn c uv) (hb : Below w.heap.size w w') : Rest w' gk gc ah la ke wn c uv :=
  ⟨h.k.below hb h.k.lt, h.c.below hb (Blk.lt h.c), h.uk, h.uc, h.ne⟩
theorem Rest.done (h : Rest w gk gc ah la ke wn c uv) (hK : Kept (NetMine a uv) w w') (f : FixB a C) (h1 : C ≤ gk) (h2 : C ≤ gc) (hq : ∀ q, uv'.ownBlock = some q → uv.ownBlock = some q ∨ w.heap.size ≤ q) : Rest w' gk gc ah la ke wn c uv' := by
  have lk := h.k.lt
  have lc := Blk.lt h.c
  have no : ∀ q, C ≤ q → uv.ownBlock ≠ some q → ¬ NetMine a uv q := fun q hq hu e => by
    rcases e with e | e | ⟨i, hi, e⟩
    · have := f.g; omega
    · exact hu e
    · have := f.n i hi; omega
  refine ⟨(hK.block gk lk (no gk h1 h.uk)).trans h.k, (hK.block gc lc (no gc h2 h.uc)).trans h.c, fun e => ?_, fun e => ?_, h.ne⟩
  · rcases hq gk e with e2 | e2
    · exact h.uk e2
    · omega
  · rcases hq gc e with e2 | e2
    · exact h.uc e2
    · omega
theorem Rest.clock (h : Rest w gk gc ah la ke wn c uv) (hc : ClockAt w' gc 92 c') (ht : Touched gc w w') : Rest w' gk gc ah la ke wn c' uv :=
  ⟨((grown_kept ht).block gk h.k.lt (fun e => h.ne (Option.some.inj e).symm)).trans h.k, hc, h.uk, h.uc, h.ne⟩
theorem Rest.keep (h : Rest w gk gc ah la ke wn c uv) (hk : KeepAt w' gk ah la' ke' wn') (ht : Touched gk w w') : Rest w' gk gc ah la' ke' wn' c uv :=
  ⟨hk, ((grown_kept ht).block gc (Blk.lt h.c) (fun e => h.ne (Option.some.inj e))).trans h.c, h.uk, h.uc, h.ne⟩
theorem utc_nil {x : Int} {z : RLabel} (h : Lab x z) (w : World) (hT : TabAt w) :
    Calls Tryd.prog 18 #[.slice none 0 0, .int .i64 x] w fun e w' => e = .returned (.tuple #[.agg #[.int .i64 z.year, .int .i64 z.month, .int .i64 z.day, .int .i64 z.h, .int .i64 z.m, .int .i64 z.s], .nilIface]) ∧ Below w.heap.size w w' := by
  obtain ⟨d, y, m, dd, d0, d1, k1, k2, hd, hn, rfl⟩ := h
  exact leap_Utc none 0 0 [] x d y m dd w hT (recs_nil _ _ _ _) leap_nil d0 d1 k1 k2 hd hn
theorem step_ok {g : Nat} {c c1 : CK} {v : Int} (h : stepC c v = 0) (e : stepK c v = c1) (w : World) (hk : ClockAt w g 92 c) :
    Calls Tryd.prog 12 #[.pointer (some ⟨g, 0, none⟩), .int .i64 v] w fun e w' => e = .returned .nilIface ∧ ClockAt w' g 92 c1 ∧ Touched g w w' := by
  have := clock_Step g c v w hk
  rw [h, errV_0, e] at this
  exact this
theorem learn_ok {g : Nat} {c c2 : CK} {lo hi : Int} (h : learnC c lo hi = 0) (e : learnK c lo hi = c2) (ok : c.ok) (w : World) (hk : ClockAt w g 92 c) :
    Calls Tryd.prog 13 #[.pointer (some ⟨g, 0, none⟩), .agg #[.int .i64 lo, .int .i64 hi]] w fun e w' => e = .returned .nilIface ∧ ClockAt w' g 92 c2 ∧ Touched g w w' := by
  have := clock_Learn g c lo hi w hk ok
  rw [h, errV_0, e] at this
  exact this
theorem now_ok {g : Nat} {c : CK} {l u : Int} (h : nowS c = ⟨l, u, 0⟩) (ok : c.ok) (w : World) (hk : ClockAt w g 92 c) :
    Calls Tryd.prog 14 #[.pointer (some ⟨g, 0, none⟩)] w fun e w' => e = .returned (.tuple #[.agg #[.int .i64 l, .int .i64 u], .nilIface]) ∧ Below w.heap.size w w' := by
  have := clock_Now g c w hk ok
  rw [h] at this
  exact this
theorem has_ok {l u n : Int} (h : hasB l u n = true) (hr : rightB l u = true) (w : World) :
    Calls Tryd.prog 15 #[.agg #[.int .i64 l, .int .i64 u], .int .i64 n] w fun e w' => e = .returned (.tuple #[.bool true, .nilIface]) ∧ Below w.heap.size w w' := by
  have := span_Has l u n w
  rw [h, hr] at this
  exact this
theorem point_ok {g : Nat} {c c3 : CK} {pv pc : Int} (h1 : pointV c = pv) (h2 : pointC c = pc) (h3 : pointK c = c3) (ok : c.ok) (w : World) (hk : ClockAt w g 92 c) :
    Calls Tryd.prog 16 #[.pointer (some ⟨g, 0, none⟩)] w fun e w' => e = .returned (.tuple #[.int .i64 pv, errV pc]) ∧ ClockAt w' g 92 c3 ∧ Touched g w w' := by
  have := clock_Point g c w hk ok
  rw [h1, h2, h3] at this
  exact this
theorem read_ok {g : Nat} {ah la ke wn here X ke' wn' : Int} (e1 : tellN la here = X) (e2 : keptN la ke ah here = ke') (e3 : wroteN la ke wn here = wn') (w : World) (hk : KeepAt w g ah la ke wn) (h1 : -1 ≤ la) (h2 : la ≤ 1000001000000) (h3 : 0 ≤ wn) (h4 : wn ≤ 1000000) (h5 : 1 ≤ ah) (h6 : ah ≤ 1000000) (h7 : 0 ≤ here) (h8 : tellN la here ≤ 1000000000000) :
    Calls Tryd.prog 17 #[.pointer (some ⟨g, 0, none⟩), .int .i64 here] w fun e w' => e = .returned (.tuple #[.int .i64 X, .nilIface]) ∧ KeepAt w' g ah X ke' wn' ∧ Touched g w w' := by
  have := keeper_Read_ok g ah la ke wn here w hk h1 h2 h3 h4 h5 h6 h7 h8
  rw [e1, e2, e3] at this
  exact this
theorem print_ok {z : RLabel} {lt : List UInt8} (hv : labB z = true) (e : labT z = lt) (w : World) (hT : TabAt w) :
    Calls Tryd.prog 19 #[.agg #[.int .i64 z.year, .int .i64 z.month, .int .i64 z.day, .int .i64 z.h, .int .i64 z.m, .int .i64 z.s]] w fun e w' => e = .returned (.tuple #[.string ⟨lt.toArray⟩, .nilIface]) ∧ Below w.heap.size w w' := by
  have := leap_Print z w hT hv
  rw [e] at this
  exact this
end Go.Proofs.YtfjpfkejajgkbaaDoor
