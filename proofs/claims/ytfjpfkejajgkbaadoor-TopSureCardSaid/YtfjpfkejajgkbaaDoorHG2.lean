/- Texts that serve many laws, one behind the other. -/
import Derived.Test.YtfjpfkejajgkbaaDoorHFind2
import Derived.Test.YtfjpfkejajgkbaaDoorHHoldP
import Derived.Test.YtfjpfkejajgkbaaDoorHNetN
import Derived.Test.YtfjpfkejajgkbaaDoorHNetO
import Derived.Test.YtfjpfkejajgkbaaDoorHSpansC
import Derived.Test.YtfjpfkejajgkbaaDoorHTellP
import Derived.Test.YtfjpfkejajgkbaaDoorHTruth
import Derived.Test.YtfjpfkejajgkbaaDoorHWiderP
/- A net of true clocks: what its nodes know is true, always. No program stands here. -/
namespace Go.Proofs.YtfjpfkejajgkbaaDoor
open Go.RowKit
set_option linter.unusedVariables false
set_option linter.unusedSimpArgs false
/-- true clocks. -/
structure Clocks (n : Nat) (ss rs : List Int) (p : Int) : Prop where
  n6 : n ≤ 6
  p0 : 0 ≤ p
  p1 : p ≤ 1000
  s : ∀ i, i < n → 0 ≤ ss.getD i 0 ∧ ss.getD i 0 ≤ 1000000
  r : ∀ i, i < n → -p ≤ rs.getD i 0 ∧ rs.getD i 0 ≤ p
variable {n : Nat} {ss rs : List Int} {p t t' : Int} {us us' : List RLetter} {S : Nat → NSt}
theorem Clocks.mono (h : Clocks n ss rs p) {i : Nat} (hi : i < n) (ht : t ≤ t') : hereAt ss rs t i ≤ hereAt ss rs t' i := read_mono ht (h.r i hi).1 (h.r i hi).2 h.p1
theorem Clocks.bd (h : Clocks n ss rs p) {i : Nat} (hi : i < n) (h0 : 0 ≤ t) (h1 : t ≤ 1000000000) : 0 ≤ hereAt ss rs t i ∧ hereAt ss rs t i ≤ 1002000000 := by
  have a := h.s i hi
  have b := h.r i hi
  have c := h.p1
  exact readV_bd a.1 a.2 h0 h1 (by omega) (by omega)
theorem Clocks.drift (h : Clocks n ss rs p) {i j : Nat} (hi : i < n) (hj : j < n) (ht : t ≤ t') : (hereAt ss rs t' j - hereAt ss rs t j) - (hereAt ss rs t' i - hereAt ss rs t i) ≤ slackD (hereAt ss rs t' i - hereAt ss rs t i) p ∧ (hereAt ss rs t' i - hereAt ss rs t i) - (hereAt ss rs t' j - hereAt ss rs t j) ≤ slackD (hereAt ss rs t' i - hereAt ss rs t i) p :=
  drift_apart ht (h.r i hi).1 (h.r i hi).2 (h.r j hj).1 (h.r j hj).2 h.p0 h.p1
/-- what a letter says is true. -/
def TrueL (ss rs : List Int) (t : Int) (L : RLetter) : Prop :=
  (L.answer = false ∧ ∃ i : Nat, L.src = i ∧ ∃ t0, 0 ≤ t0 ∧ t0 ≤ t ∧ L.t = hereAt ss rs t0 i) ∨
  (L.answer = true ∧ ∃ i k : Nat, L.dst = i ∧ L.src = k ∧ ∃ ta tb, 0 ≤ ta ∧ ta ≤ tb ∧ tb ≤ t ∧ L.t1 = hereAt ss rs ta i ∧ L.t2 = hereAt ss rs tb k ∧ L.t = hereAt ss rs tb k)
theorem TrueL.mono {L : RLetter} (h : TrueL ss rs t L) (ht : t ≤ t') : TrueL ss rs t' L := by
  rcases h with ⟨h1, i, h2, t0, h3, h4, h5⟩ | ⟨h1, i, k, h2, h3, ta, tb, h4, h5, h6, h7⟩
  · exact .inl ⟨h1, i, h2, t0, h3, by omega, h5⟩
  · exact .inr ⟨h1, i, k, h2, h3, ta, tb, h4, h5, by omega, h7⟩
/-- what is known is true. -/
def TrueK (ss rs : List Int) (t : Int) (i : Nat) (x : Int) (k : Kn) : Prop :=
  ∃ j : Nat, x = j ∧ ∃ tc, 0 ≤ tc ∧ tc ≤ t ∧ k.at_ = hereAt ss rs tc i ∧ k.lo ≤ hereAt ss rs tc j - hereAt ss rs tc i ∧ hereAt ss rs tc j - hereAt ss rs tc i ≤ k.hi ∧ -10000000000 ≤ k.lo ∧ k.hi ≤ 10000000000
theorem TrueK.mono {i : Nat} {x : Int} {k : Kn} (h : TrueK ss rs t i x k) (ht : t ≤ t') : TrueK ss rs t' i x k := by
  obtain ⟨j, h1, tc, h2, h3, h4⟩ := h
  exact ⟨j, h1, tc, h2, by omega, h4⟩
structure TrueN (n : Nat) (ss rs : List Int) (p t : Int) (us : List RLetter) (S : Nat → NSt) : Prop where
  C : Clocks n ss rs p
  t0 : 0 ≤ t
  t1 : t ≤ 1000000000
  L : ∀ L ∈ us, LHas n L ∧ TrueL ss rs t L
  ok : ∀ i, i < n → (S i).Ok
  sN : ∀ i, i < n → (S i).N = n ∧ (S i).id = i ∧ (S i).p = p
  h : ∀ i, i < n → (S i).h ≤ hereAt ss rs t i
  k : ∀ i, i < n → ∀ x k, (S i).f x = some k → TrueK ss rs t i x k
theorem TrueN.later (h : TrueN n ss rs p t us S) (ht : t ≤ t') (h1 : t' ≤ 1000000000) (hu : ∀ L ∈ us', LHas n L ∧ TrueL ss rs t' L) : TrueN n ss rs p t' us' S :=
  ⟨h.C, by have := h.t0; omega, h1, hu, h.ok, h.sN, fun i hi => Int.le_trans (h.h i hi) (h.C.mono hi ht), fun i hi x k hk => (h.k i hi x k hk).mono ht⟩
theorem TrueN.not_back (h : TrueN n ss rs p t us S) {i : Nat} (hi : i < n) : (S i).backB (hereAt ss rs t i) = false := by
  have b := h.C.bd hi h.t0 h.t1
  have c := h.h i hi
  unfold NSt.backB
  simp
  omega
/-- an age is true. -/
theorem TrueN.age (h : TrueN n ss rs p t us S) {i : Nat} (hi : i < n) {x : Int} {k : Kn} (hk : (S i).f x = some k) : ∃ j : Nat, x = j ∧ j < n ∧ ageL k p (hereAt ss rs t i) ≤ hereAt ss rs t j - hereAt ss rs t i ∧ hereAt ss rs t j - hereAt ss rs t i ≤ ageH k p (hereAt ss rs t i) ∧ -20000000000 ≤ ageL k p (hereAt ss rs t i) ∧ ageH k p (hereAt ss rs t i) ≤ 20000000000 := by
  obtain ⟨j, rfl, tc, h2, h3, h4, h5, h6, h7, h8⟩ := h.k i hi x k hk
  obtain ⟨a, b, _⟩ := (h.ok i hi).kn _ k hk
  rw [(h.sN i hi).1] at b
  have hj : j < n := by omega
  have d := h.C.drift hi hj h3
  have m := h.C.mono hi h3
  have bi := h.C.bd hi h.t0 h.t1
  have bc := h.C.bd hi h2 (by have := h.t1; omega)
  have sl := slack_bd (n := hereAt ss rs t i - hereAt ss rs tc i) (p := p) (by omega) (by omega) h.C.p0 h.C.p1
  refine ⟨j, rfl, hj, ?_⟩
  unfold ageL ageH
  rw [h4]
  omega
/-- what a true answer says. -/
theorem TrueN.off (h : TrueN n ss rs p t us S) {d : Nat} (hd : d < n) {L : RLetter} (hL : LHas n L) (hT : TrueL ss rs t L) (he : L.dst = d) (ha : L.answer = true) :
    (offL L (hereAt ss rs t d) p).c = 0 ∧ ∃ j : Nat, L.src = j ∧ j < n ∧ (offL L (hereAt ss rs t d) p).lo ≤ hereAt ss rs t j - hereAt ss rs t d ∧ hereAt ss rs t j - hereAt ss rs t d ≤ (offL L (hereAt ss rs t d) p).hi ∧ -10000000000 ≤ (offL L (hereAt ss rs t d) p).lo ∧ (offL L (hereAt ss rs t d) p).hi ≤ 10000000000 := by
  rcases hT with ⟨h1, _⟩ | ⟨_, i, j, h2, h3, ta, tb, h4, h5, h6, h7, h8, h9⟩
  · rw [h1] at ha; cases ha
  · obtain rfl : d = i := by omega
    have hj : j < n := by have := hL.1.2; omega
    have b1 := h.C.bd hd h4 (by have := h.t1; omega)
    have b2 := h.C.bd hj (show 0 ≤ tb by omega) (by have := h.t1; omega)
    have b3 := h.C.bd hd h.t0 h.t1
    have b4 := h.C.bd hj h.t0 h.t1
    have m1 := h.C.mono hd (show ta ≤ t by omega)
    have m2 := h.C.mono hj h6
    have m3 := h.C.mono hj h5
    have dr := h.C.drift hd hj (show ta ≤ t by omega)
    have sl := slack_bd (n := hereAt ss rs t d - hereAt ss rs ta d) (p := p) (by omega) (by omega) h.C.p0 h.C.p1
    have hp : probeC L.t1 L.t2 L.t (hereAt ss rs t d) = 0 := by
      rw [h7, h8, h9, probeC_good (timeB_iff.2 (by omega)) (timeB_iff.2 (by omega)) (timeB_iff.2 (by omega)) (timeB_iff.2 (by omega)), if_neg (by omega)]
    have ho : okP L.t1 (hereAt ss rs t d) p = true := by
      unfold okP
      rw [h7, rateB_iff.2 ⟨h.C.p0, h.C.p1⟩]
      simp; omega
    have hi : offIn L.t1 L.t2 L.t (hereAt ss rs t d) p = true := by
      unfold offIn offHi
      rw [h7, h8, h9, timeB_iff.2 (by omega), timeB_iff.2 (by omega)]; rfl
    have hle : L.t - hereAt ss rs t d ≤ offHi L.t1 L.t2 (hereAt ss rs t d) p := by unfold offHi; rw [h7, h8, h9]; omega
    unfold offL offS
    rw [if_pos hp, if_pos ho, if_pos hi, if_pos hle]
    refine ⟨rfl, j, h3, hj, ?_⟩
    simp only []
    unfold offHi
    rw [h7, h8, h9]
    omega
/-- a node that hears what is true knows what is true. -/
theorem TrueN.hears (h : TrueN n ss rs p t us S) {d : Nat} (hd : d < n) {L : RLetter} (hL : LHas n L) (hT : TrueL ss rs t L) (he : L.dst = d) {b : Bool} {c : Int} {s' : NSt} (hh : Hears (S d) L (hereAt ss rs t d) b c s') :
    (c = 0 ∨ c = 3) ∧ TrueN n ss rs p t us (updS S d s') := by
  have hnb := h.not_back hd
  have hp := (h.sN d hd).2.2
  have keep : (∀ x k, s'.f x = some k → TrueK ss rs t d x k) → s'.h ≤ hereAt ss rs t d → TrueN n ss rs p t us (updS S d s') := fun hk hh' => by
    refine ⟨h.C, h.t0, h.t1, h.L, fun i hi => ?_, fun i hi => ?_, fun i hi => ?_, fun i hi => ?_⟩
    all_goals unfold updS
    all_goals by_cases e : i = d
    · subst e; rw [if_pos rfl]; exact hh.ok (h.ok i hd)
    · rw [if_neg e]; exact h.ok i hi
    · subst e; rw [if_pos rfl]; exact ⟨hh.keeps.1.trans (h.sN i hd).1, hh.keeps.2.1.trans (h.sN i hd).2.1, hh.keeps.2.2.trans (h.sN i hd).2.2⟩
    · rw [if_neg e]; exact h.sN i hi
    · subst e; rw [if_pos rfl]; exact hh'
    · rw [if_neg e]; exact h.h i hi
    · subst e; rw [if_pos rfl]; exact hk
    · rw [if_neg e]; exact h.k i hi
  have learn : ∀ lo hi : Int, (∃ j : Nat, L.src = j ∧ lo ≤ hereAt ss rs t j - hereAt ss rs t d ∧ hereAt ss rs t j - hereAt ss rs t d ≤ hi ∧ -10000000000 ≤ lo ∧ hi ≤ 10000000000) → ∀ x k, ((S d).learn L.src (hereAt ss rs t d) lo hi).f x = some k → TrueK ss rs t d x k := by
    rintro lo hi ⟨j, hj, a1, a2, a3, a4⟩ x k hk
    have hk' : (if x = L.src then some (⟨lo, hi, hereAt ss rs t d⟩ : Kn) else (S d).f x) = some k := hk
    by_cases e : x = L.src
    · rw [if_pos e] at hk'
      have := Option.some.inj hk'
      subst this
      exact ⟨j, by rw [e, hj], t, h.t0, Int.le_refl _, rfl, a1, a2, a3, a4⟩
    · rw [if_neg e] at hk'
      exact h.k d hd x k hk'
  cases hh with
  | back hb => rw [hnb] at hb; cases hb
  | shape hb h1 => exact ⟨.inr rfl, keep (h.k d hd) (h.h d hd)⟩
  | ask hb h1 h2 h3 h4 h5 => exact ⟨.inl rfl, keep (h.k d hd) (Int.le_refl _)⟩
  | bad hb h1 h2 h3 h4 h5 h6 => rw [hp] at h6; exact absurd (h.off hd hL hT he h5).1 h6
  | first hb h1 h2 h3 h4 h5 h6 h7 =>
    refine ⟨.inl rfl, keep ?_ (Int.le_refl _)⟩
    obtain ⟨_, j, q1, q2, q3, q4, q5, q6⟩ := h.off hd hL hT he h5
    rw [hp]
    exact learn _ _ ⟨j, q1, q3, q4, q5, q6⟩
  | clash k hb h1 h2 h3 h4 h5 h6 h7 h8 =>
    obtain ⟨_, j, q1, q2, q3, q4, q5, q6⟩ := h.off hd hL hT he h5
    obtain ⟨j', e1, e2, e3, e4, e5, e6⟩ := h.age hd h7
    obtain rfl : j = j' := by omega
    unfold commonB at h8
    rw [decide_eq_false_iff_not, hp] at h8
    exfalso; apply h8
    omega
  | more k hb h1 h2 h3 h4 h5 h6 h7 h8 =>
    refine ⟨.inl rfl, keep ?_ (Int.le_refl _)⟩
    obtain ⟨_, j, q1, q2, q3, q4, q5, q6⟩ := h.off hd hL hT he h5
    obtain ⟨j', e1, e2, e3, e4, e5, e6⟩ := h.age hd h7
    obtain rfl : j = j' := by omega
    rw [hp]
    exact learn _ _ ⟨j, q1, by omega, by omega, by omega, by omega⟩
end Go.Proofs.YtfjpfkejajgkbaaDoor

/- A net of true clocks: its edges are true, and what it tells of two clocks. No program stands here. -/
namespace Go.Proofs.YtfjpfkejajgkbaaDoor
open Go.RowKit
set_option linter.unusedVariables false
set_option linter.unusedSimpArgs false
variable {n : Nat} {ss rs : List Int} {p t t' : Int} {us us' : List RLetter} {S S' : Nat → NSt}
theorem act_true (h : TrueN n ss rs p t us S) (ls : ss.length = n) {A : RAct} {c : Int} {got : Option RLetter} (ha : WAct n ss rs t us A c got t' us') : TrueN n ss rs p t' us' S ∧ (∀ L, got = some L → LHas n L ∧ TrueL ss rs t' L) ∧ c ≠ 7 := by
  have same : TrueN n ss rs p t us S := h
  have less : ∀ j, TrueN n ss rs p t (us.eraseIdx j) S := fun j => h.later (Int.le_refl _) h.t1 (fun L hL => h.L L (List.mem_of_mem_eraseIdx hL))
  cases ha with
  | gone a b h0 h1 h2 => exact ⟨h.later (by omega) h2 (fun L hL => ⟨(h.L L hL).1, (h.L L hL).2.mono (by omega)⟩), by simp, by omega⟩
  | ask i k s r hs hr hk hne hl =>
    have hi : i < n := by rw [← ls]; exact (List.getElem?_eq_some_iff.1 hs).1
    refine ⟨h.later (Int.le_refl _) h.t1 (fun L hL => ?_), by simp, by omega⟩
    rcases List.mem_append.1 hL with h1 | h1
    · exact h.L L h1
    · rw [List.mem_singleton] at h1; subst h1
      exact ⟨⟨⟨by show (0 : Int) ≤ i; omega, by show (i : Int) < n; omega⟩, ⟨by show (0 : Int) ≤ k; omega, by show (k : Int) < n; omega⟩⟩, .inl ⟨rfl, i, rfl, t, h.t0, Int.le_refl _, (hereAt_eq hs hr).symm⟩⟩
  | deliver j L b hj => exact ⟨less j, fun L' e => by cases e; exact h.L L (List.mem_of_getElem? hj), by omega⟩
  | lose j L b hj => exact ⟨less j, by simp, by omega⟩
  | again j L b hj => exact ⟨same, fun L' e => by cases e; exact h.L L (List.mem_of_getElem? hj), by omega⟩
  | _ => exact ⟨same, by simp, by omega⟩
theorem ans_true (h : TrueN n ss rs p t us S) (ls : ss.length = n) {L : RLetter} {c : Int} (hT : TrueL ss rs t L) (ha : WAns n ss rs t us L c us') : TrueN n ss rs p t us' S ∧ c ≠ 7 := by
  cases ha with
  | ok i k s r t1 t2 lt hs hr hi hl =>
    have hk : k < n := by rw [← ls]; exact (List.getElem?_eq_some_iff.1 hs).1
    refine ⟨h.later (Int.le_refl _) h.t1 (fun L hL => ?_), by omega⟩
    rcases List.mem_append.1 hL with h1 | h1
    · exact h.L L h1
    · rw [List.mem_singleton] at h1; subst h1
      refine ⟨⟨⟨by show (0 : Int) ≤ k; omega, by show (k : Int) < n; omega⟩, ⟨by show (0 : Int) ≤ i; omega, by show (i : Int) < n; omega⟩⟩, .inr ⟨rfl, i, k, rfl, rfl, ?_⟩⟩
      rcases hT with ⟨_, i', e, t0, h2, h3, h4⟩ | ⟨e, _⟩
      · have e' : (i : Int) = i' := e
        obtain rfl : i = i' := by omega
        exact ⟨t0, t, h2, h3, Int.le_refl _, h4, (hereAt_eq hs hr).symm, (hereAt_eq hs hr).symm⟩
      · cases e
  | _ => exact ⟨h, by omega⟩
theorem nact_true (h : TrueN n ss rs p t us S) (ls : ss.length = n) {A : RAct} {c : Int} (ha : NAct n ss rs t us S A c t' us' S') : TrueN n ss rs p t' us' S' ∧ c ≠ 7 := by
  have hear : ∀ {A : RAct} {t' : Int} {us' : List RLetter} {L : RLetter} {d : Nat} {s r : Int} {b : Bool} {c : Int} {s' : NSt}, WAct n ss rs t us A 0 (some L) t' us' → L.dst = (d : Int) → ss[d]? = some s → rs[d]? = some r → Hears (S d) L (readV s r t') b c s' → (c = 0 ∨ c = 3) ∧ TrueN n ss rs p t' us' (updS S d s') ∧ TrueL ss rs t' L := by
    intro A t' us' L d s r b c s' hw hd hs hr hh
    obtain ⟨h1, h2, _⟩ := act_true h ls hw
    obtain ⟨h3, h4⟩ := h2 L rfl
    rw [← hereAt_eq hs hr] at hh
    have := h1.hears (by rw [← ls]; exact (List.getElem?_eq_some_iff.1 hs).1) h3 h4 hd hh
    exact ⟨this.1, this.2, h4⟩
  cases ha with
  | quiet _ _ _ hw => obtain ⟨h1, _, h3⟩ := act_true h ls hw; exact ⟨h1, h3⟩
  | bad _ _ L d s r b _ s' hw hd hs hr hh hc =>
    obtain ⟨h1, h2, _⟩ := hear hw hd hs hr hh
    exact ⟨h2, by omega⟩
  | told _ _ L d s r b s' hw hd hs hr hh ha => exact ⟨(hear hw hd hs hr hh).2.1, by omega⟩
  | asked _ us1 _ L d s r b _ s' hw hd hs hr hh ha hwa =>
    obtain ⟨_, h2, h3⟩ := hear hw hd hs hr hh
    exact ans_true h2 ls h3 hwa
theorem TrueN.tell (h : TrueN n ss rs p t us S) {i : Nat} (hi : i < n) : tellC (S i) (hereAt ss rs t i) = 0 := by
  refine tell_ok (h.not_back hi) (fun j hj => ?_)
  unfold farAt
  cases hf : (S i).f j with
  | none => rfl
  | some k =>
    obtain ⟨_, _, _, a1, a2, a3, a4⟩ := h.age hi hf
    rw [(h.sN i hi).2.2]
    show (!rightB _ _) = false
    rw [rightB_iff.2 (by omega)]
    rfl
theorem TrueN.netC (h : TrueN n ss rs p t us S) : ∀ k, k ≤ n → netC (hereAt ss rs t) S k = 0
  | 0, _ => rfl
  | k + 1, hk => by
    show (if Go.Proofs.YtfjpfkejajgkbaaDoor.netC (hereAt ss rs t) S k = 0 then tellC (S k) (hereAt ss rs t k) else _) = 0
    rw [if_pos (h.netC k (by omega))]
    exact h.tell (by omega)
/-- an edge that is told is true. -/
theorem TrueN.edge (h : TrueN n ss rs p t us S) {e : REdge} (he : e ∈ netL (hereAt ss rs t) S n) : ∃ i j : Nat, e.a = i ∧ e.b = j ∧ i < n ∧ j < n ∧ i ≠ j ∧ e.lo ≤ hereAt ss rs t j - hereAt ss rs t i ∧ hereAt ss rs t j - hereAt ss rs t i ≤ e.hi ∧ -20000000000 ≤ e.lo ∧ e.hi ≤ 20000000000 := by
  obtain ⟨i, hi, he⟩ := List.mem_flatMap.1 he
  have hi := List.mem_range.1 hi
  unfold tellE at he
  rw [if_pos (h.tell hi)] at he
  obtain ⟨j, hj, he⟩ := List.mem_flatMap.1 he
  have hj := List.mem_range.1 hj
  rw [(h.sN i hi).1] at hj
  unfold edgeAt at he
  split at he
  · rename_i g
    rw [List.mem_singleton] at he
    subst he
    rw [(h.sN i hi).2.1] at g ⊢
    obtain ⟨g1, g2⟩ := g
    unfold hasAt at g1
    cases hf : (S i).f j with
    | none => rw [hf, (h.sN i hi).2.1] at g1; simp at g1; exact absurd g1 g2
    | some k =>
      obtain ⟨j', e1, e2, a1, a2, a3, a4⟩ := h.age hi hf
      obtain rfl : j = j' := by omega
      refine ⟨i, j, rfl, rfl, hi, hj, fun e => g2 e.symm, ?_⟩
      unfold spanAt
      rw [hf, (h.sN i hi).2.2]
      exact ⟨a1, a2, a3, a4⟩
  · simp at he
theorem edgesGo_all {N : Int} : ∀ {l : List REdge}, (∀ e ∈ l, edgeC N e = 0) → edgesGo N l = 0
  | [], _ => rfl
  | e :: l, h => by
    show (if edgeC N e = 0 then edgesGo N l else edgeC N e) = 0
    rw [if_pos (h e (by simp))]
    exact edgesGo_all fun x hx => h x (by simp [hx])
theorem TrueN.edgesC (h : TrueN n ss rs p t us S) (h1 : 1 ≤ n) : edgesC n (netL (hereAt ss rs t) S n) = 0 := by
  have h6 := h.C.n6
  have hl := netL_len (h := hereAt ss rs t) (S := S) (n := n) (fun i hi => (h.sN i hi).1) n (Nat.le_refl _)
  have hm := Nat.mul_le_mul h6 h6
  unfold Go.Proofs.YtfjpfkejajgkbaaDoor.edgesC
  rw [if_neg (by omega), if_neg (by omega)]
  refine edgesGo_all fun e he => ?_
  obtain ⟨i, j, e1, e2, hi, hj, hne, a1, a2, a3, a4⟩ := h.edge he
  unfold edgeC
  rw [if_pos ⟨nodeB_iff.2 (by omega), nodeB_iff.2 (by omega)⟩, if_neg (by omega), rightB_iff.2 (by omega)]
  rfl
/-- what the clocks show. -/
def shows (ss rs : List Int) (t : Int) (n : Nat) : List Int := (List.range n).map (hereAt ss rs t)
theorem shows_get {i : Nat} (hi : i < n) : (shows ss rs t n)[i]? = some (hereAt ss rs t i) := by unfold shows; rw [List.getElem?_map, List.getElem?_range hi]; rfl
theorem shows_getD {i : Nat} (hi : i < n) : (shows ss rs t n).getD i 0 = hereAt ss rs t i := by rw [List.getD_eq_getElem?_getD, shows_get hi]; rfl
theorem TrueN.fitsC (h : TrueN n ss rs p t us S) (h1 : 1 ≤ n) : fitsC n (netL (hereAt ss rs t) S n) (shows ss rs t n) = 0 := by
  unfold Go.Proofs.YtfjpfkejajgkbaaDoor.fitsC
  rw [if_pos (h.edgesC h1), if_pos (by simp [shows])]
  have : (shows ss rs t n).all timeB = true := by
    rw [List.all_eq_true]
    intro x hx
    obtain ⟨i, hi, rfl⟩ := List.mem_map.1 hx
    have := h.C.bd (List.mem_range.1 hi) h.t0 h.t1
    exact timeB_iff.2 (by omega)
  rw [this]
  rfl
theorem TrueN.fits (h : TrueN n ss rs p t us S) (h1 : 1 ≤ n) : fitsV n (netL (hereAt ss rs t) S n) (shows ss rs t n) = true := by
  unfold fitsV
  rw [h.fitsC h1]
  simp only [decide_true, Bool.true_and, List.all_eq_true]
  intro e he
  obtain ⟨i, j, e1, e2, hi, hj, hne, a1, a2, a3, a4⟩ := h.edge he
  unfold fitB
  rw [e1, e2]
  simp only [Bool.and_eq_true, decide_eq_true_eq, Int.toNat_natCast]
  rw [shows_getD hi, shows_getD hj]
  exact ⟨a1, a2⟩
theorem way_cost {A : Nat → Nat → Int → Prop} {W : Int} (hA : ∀ x y w, A x y w → -W ≤ w ∧ w ≤ W) {a b r : Nat} {c : Int} (h : Way A a b r c) : -((r : Int) * W) ≤ c ∧ c ≤ (r : Int) * W := by
  induction h with
  | start => simp
  | go _ hw ih =>
    have := hA _ _ _ hw
    rw [Int.natCast_succ, Int.add_mul]
    omega
/-- what is told of two clocks. -/
theorem TrueN.offset (h : TrueN n ss rs p t us S) (h1 : 1 ≤ n) {a b : Nat} (ha : a < n) (hb : b < n) {x : RSpan} {c : Int} (hO : OffS n (hereAt ss rs t) S a b x c) : c = 5 ∨ (c = 0 ∧ hasB x.lo x.hi (hereAt ss rs t b - hereAt ss rs t a) = true) := by
  have hnd : (nodeB (n : Int) (a : Int) && nodeB (n : Int) (b : Int)) = true := by rw [nodeB_iff.2 (by omega), nodeB_iff.2 (by omega)]; rfl
  rcases hO with ⟨h0, _⟩ | ⟨_, ⟨h0, _⟩ | ⟨_, hB⟩⟩
  · rw [hnd] at h0; cases h0
  · exact absurd (h.netC n (Nat.le_refl _)) h0
  · have hfit := h.fits h1
    have hA : ∀ x y w, Arc (netL (hereAt ss rs t) S n) x y w → x < n ∧ y < n := by
      rintro x y w ⟨e, he, hx⟩
      obtain ⟨i, j, e1, e2, hi, hj, _⟩ := h.edge he
      rcases hx with ⟨q1, q2, _⟩ | ⟨q1, q2, _⟩ <;> omega
    have hW : ∀ x y w, Arc (netL (hereAt ss rs t) S n) x y w → -20000000000 ≤ w ∧ w ≤ 20000000000 := by
      rintro x y w ⟨e, he, hx⟩
      obtain ⟨i, j, e1, e2, hi, hj, _, a1, a2, a3, a4⟩ := h.edge he
      have b1 := h.C.bd hi h.t0 h.t1
      have b2 := h.C.bd hj h.t0 h.t1
      rcases hx with ⟨_, _, q3⟩ | ⟨_, _, q3⟩ <;> omega
    have hns : ¬ Sunk (Arc (netL (hereAt ss rs t) S n)) n := fit_not_sunk hfit
    by_cases hc : c = 0
    · subst hc
      right
      obtain ⟨n', a', b', e1, e2, e3, hok⟩ := bet_ok hB
      obtain rfl : n = n' := by omega
      obtain rfl : a = a' := by omega
      obtain rfl : b = b' := by omega
      have := bet_in hok hfit
      rw [shows_getD ha, shows_getD hb] at this
      exact ⟨rfl, this⟩
    · left
      rcases hB with ⟨g, _⟩ | ⟨_, g, _⟩ | ⟨_, _, ⟨g, _⟩ | ⟨_, D, hD, ⟨⟨i, j, hi, hj, hT⟩, _⟩ | ⟨_, ⟨_, g, _⟩ | ⟨_, g, _⟩⟩⟩⟩
      · exact absurd (h.edgesC h1) g
      · rw [hnd] at g; cases g
      · simp only [Int.toNat_natCast] at g; exact absurd g hns
      · simp only [Int.toNat_natCast] at hi hj hD
        exfalso
        apply hT
        intro hf
        have near : ∀ u v, u < n → v < n → D u v < farI → timeB (D u v) = true ∧ timeB (-(D u v)) = true := by
          intro u v hu hv huv
          rcases hD u v hu hv with ⟨q, _⟩ | ⟨_, ⟨r, hr⟩, hmin⟩
          · have q' : decide (D u v < farI) = false := q
            rw [decide_eq_true huv] at q'; cases q'
          · rcases Way.short hA hu r v _ hr with ⟨r', c', q1, q2, q3⟩ | ⟨v', e', c', q1, q2, q3, q4⟩
            · have := hmin _ _ q3
              have hcost := way_cost hW q3
              have hn6 := h.C.n6
              have hr5 : (r' : Int) * 20000000000 ≤ 5 * 20000000000 := Int.mul_le_mul_of_nonneg_right (by omega) (by omega)
              exact ⟨timeB_iff.2 (by omega), timeB_iff.2 (by omega)⟩
            · exact absurd ⟨v', e', c', q1, q3, q4⟩ hns
        have hrev := tells_rev hD hi hj (decide_eq_true hf)
        exact ⟨(near i j hi hj hf).1, (near j i hj hi (of_decide_eq_true hrev)).2⟩
      · exact g
      · exact absurd g hc
/-- a new net is true. -/
theorem new_true {zs ys : List Int} (hc : newC zs ys p = 0) (hl : zs.length = n) : TrueN n zs ys p 0 [] (fun i => NSt.start n i p) := by
  obtain ⟨r1, r2, r3, r4, r5⟩ := newC_0 hc
  obtain ⟨p0, p1⟩ := rateB_iff.1 r1
  obtain ⟨sb, _⟩ := clocksB_get r5 r4 p1
  have rb := clocksB_rate r5 r4
  have gs : ∀ i, i < n → ∃ s, zs[i]? = some s := fun i hi => ⟨_, List.getElem?_eq_getElem (by omega)⟩
  have gr : ∀ i, i < n → ∃ s, ys[i]? = some s := fun i hi => ⟨_, List.getElem?_eq_getElem (by omega)⟩
  have C : Clocks n zs ys p := ⟨by omega, p0, p1, fun i hi => by obtain ⟨s, hs⟩ := gs i hi; rw [List.getD_eq_getElem?_getD, hs]; exact sb i s hs, fun i hi => by obtain ⟨s, hs⟩ := gr i hi; rw [List.getD_eq_getElem?_getD, hs]; exact rb i s hs⟩
  refine ⟨C, by omega, by omega, by simp, fun i hi => NSt.start_ok (by omega) (by omega) hi p0 p1, fun i hi => ⟨rfl, rfl, rfl⟩, fun i hi => ?_, fun i hi x k hk => by cases hk⟩
  have := C.bd (t := 0) hi (by omega) (by omega)
  show (-1 : Int) ≤ _
  omega
end Go.Proofs.YtfjpfkejajgkbaaDoor

/- A net of two, an ask and its answer: what it tells. No program stands here. -/
namespace Go.Proofs.YtfjpfkejajgkbaaDoor
open Go.RowKit
set_option linter.unusedVariables false
set_option linter.unusedSimpArgs false
theorem ex_new : newC [0, 100] [0, 0] 0 = 0 := by decide
def exL : List REdge := [⟨0, 1, 98, 104⟩]
theorem ex_arc : ∀ x y w, Arc exL x y w → (x = 0 ∧ y = 1 ∧ w = 104) ∨ (x = 1 ∧ y = 0 ∧ w = -98) := by
  rintro x y w ⟨e, he, hx⟩
  simp [exL] at he
  subst he
  rcases hx with ⟨h1, h2, h3⟩ | ⟨h1, h2, h3⟩
  · left; simp only [] at h1 h2 h3; omega
  · right; simp only [] at h1 h2 h3; omega
theorem ex_hi : ∀ {r c}, Way (Arc exL) 0 1 r c → 104 ≤ c := by
  intro r c h
  have := way_pot (p := fun i => if i = 1 then 104 else 0) (fun x y w hw => by rcases ex_arc x y w hw with ⟨rfl, rfl, rfl⟩ | ⟨rfl, rfl, rfl⟩ <;> simp) h
  simpa using this
theorem ex_lo : ∀ {r c}, Way (Arc exL) 1 0 r c → -98 ≤ c := by
  intro r c h
  have := way_pot (p := fun i => if i = 1 then 98 else 0) (fun x y w hw => by rcases ex_arc x y w hw with ⟨rfl, rfl, rfl⟩ | ⟨rfl, rfl, rfl⟩ <;> simp) h
  simpa using this
theorem ex_go : Way (Arc exL) 0 1 1 104 := .one ⟨_, List.mem_singleton.2 rfl, .inl ⟨rfl, rfl, rfl⟩⟩
theorem ex_back : Way (Arc exL) 1 0 1 (-98) := .one ⟨_, List.mem_singleton.2 rfl, .inr ⟨rfl, rfl, rfl⟩⟩
def exS0 (i : Nat) : NSt := NSt.start 2 i 0
def exS1 : Nat → NSt := updS exS0 1 ((exS0 1).heard 100)
def exS2 : Nat → NSt := updS exS1 0 ((exS1 0).learn 1 0 100 102)
def exU1 : List RLetter := [⟨0, 1, false, 0, 0, 0⟩]
def exU2 : List RLetter := [⟨1, 0, true, 0, 100, 100⟩]
theorem ex_ask : NAct 2 [0, 100] [0, 0] 0 [] exS0 ⟨2, 0, 1⟩ 0 0 exU1 exS0 :=
  .quiet _ _ _ _ (by
    have h := WAct.ask (n := 2) (ss := [0, 100]) (rs := [0, 0]) (t := 0) (us := []) 0 1 0 0 rfl rfl (by omega) (by omega) (by decide)
    exact h)
theorem ex_one : NAct 2 [0, 100] [0, 0] 0 exU1 exS0 ⟨3, 0, 0⟩ 0 0 exU2 exS1 := by
  have hw : WAct 2 [0, 100] [0, 0] 0 exU1 ⟨3, ((0 : Nat) : Int), 0⟩ 0 (some ⟨0, 1, false, 0, 0, 0⟩) 0 (exU1.eraseIdx 0) := WAct.deliver 0 _ 0 rfl
  have hh : Hears (exS0 1) ⟨0, 1, false, 0, 0, 0⟩ (readV 100 0 0) false 0 ((exS0 1).heard (readV 100 0 0)) := .ask (by decide) rfl (by decide) (by decide) (by decide) rfl
  have ha : WAns 2 [0, 100] [0, 0] 0 [] ⟨((0 : Nat) : Int), ((1 : Nat) : Int), false, 0, 0, 0⟩ 0 ([] ++ [⟨((1 : Nat) : Int), ((0 : Nat) : Int), true, 0, readV 100 0 0, readV 100 0 0⟩]) := WAns.ok 0 1 100 0 0 0 0 rfl rfl (by omega) (by decide)
  exact NAct.asked _ 0 [] exU2 ⟨0, 1, false, 0, 0, 0⟩ 1 100 0 false 0 _ hw rfl rfl rfl hh rfl ha
theorem ex_two : NAct 2 [0, 100] [0, 0] 0 exU2 exS1 ⟨3, 0, 0⟩ 0 0 [] exS2 := by
  have hw : WAct 2 [0, 100] [0, 0] 0 exU2 ⟨3, ((0 : Nat) : Int), 0⟩ 0 (some ⟨1, 0, true, 0, 100, 100⟩) 0 (exU2.eraseIdx 0) := WAct.deliver 0 _ 0 rfl
  have ho : offL ⟨1, 0, true, 0, 100, 100⟩ (readV 0 0 0) 0 = ⟨100, 102, 0⟩ := rfl
  have hh := Hears.first (s := exS1 0) (L := ⟨1, 0, true, 0, 100, 100⟩) (here := readV 0 0 0) (by decide) rfl (by decide) (by decide) (by decide) rfl (by show (offL ⟨1, 0, true, 0, 100, 100⟩ (readV 0 0 0) 0).c = 0; rw [ho]) rfl
  exact NAct.told _ 0 [] ⟨1, 0, true, 0, 100, 100⟩ 0 0 0 true _ hw rfl rfl rfl hh rfl
theorem ex_netL : netL (hereAt [0, 100] [0, 0] 0) exS2 2 = exL := by rfl
theorem ex_netC : netC (hereAt [0, 100] [0, 0] 0) exS2 2 = 0 := by decide
theorem ex_true : TrueN 2 [0, 100] [0, 0] 0 0 [] exS2 :=
  (nact_true (nact_true (nact_true (new_true ex_new rfl) rfl ex_ask).1 rfl ex_one).1 rfl ex_two).1
theorem ex_off {x : RSpan} {c : Int} (h : OffS 2 (hereAt [0, 100] [0, 0] 0) exS2 (0 : Int) (1 : Int) x c) : c = 0 ∧ x = ⟨98, 104⟩ := by
  have hO := ex_true.offset (by omega) (a := 0) (b := 1) (by omega) (by omega) h
  rcases h with ⟨h0, _⟩ | ⟨_, ⟨h0, _⟩ | ⟨_, hB⟩⟩
  · exact absurd h0 (by decide)
  · exact absurd ex_netC h0
  · rw [ex_netL] at hB
    have hc : c = 0 := by
      rcases hO with rfl | ⟨h1, _⟩
      · exfalso
        rcases hB with ⟨_, g, _⟩ | ⟨_, _, g, _⟩ | ⟨_, _, ⟨_, g, _⟩ | ⟨_, D, hD, ⟨_, g, _⟩ | ⟨_, ⟨g, _⟩ | ⟨_, g, _⟩⟩⟩⟩
        · exact absurd g (by decide)
        · omega
        · omega
        · omega
        · rcases hD 0 1 (by decide) (by decide) with ⟨_, q⟩ | ⟨q, _⟩
          · exact q _ _ ex_go
          · exact g (of_decide_eq_true q)
        · omega
      · exact h1
    subst hc
    obtain ⟨n, a, b, e1, e2, e3, hok⟩ := bet_ok hB
    obtain rfl : a = 0 := by omega
    obtain rfl : b = 1 := by omega
    have h1 := hok.hi.one ⟨⟨_, ex_go⟩, fun _ _ g => ex_hi g⟩
    have h2 := hok.lo.one ⟨⟨_, ex_back⟩, fun _ _ g => ex_lo g⟩
    refine ⟨rfl, ?_⟩
    obtain ⟨l, hh⟩ := x
    simp only [] at h1 h2
    subst h1
    have : l = 98 := by omega
    subst this
    rfl
theorem pair_ints {w : World} {g : Nat} {T : TypeId} {a b : Int} (h : Blk w g T #[.int .i64 a, .int .i64 b]) (ha : i64B a) (hb : i64B b) : IsInts w (some ⟨g, 0, none⟩) 2 2 [a, b] := by
  refine ⟨rfl, by omega, by unfold maxLen; omega, ?_, fun _ => ⟨g, 0, rfl, h.lt, fun i z hz j u hj => ?_⟩⟩
  · intro z hz
    simp at hz
    rcases hz with rfl | rfl <;> assumption
  · have hj0 : j = 0 := by
      have := (List.getElem?_eq_some_iff.1 hj).1
      simp [intCells] at this; omega
    subst hj0
    simp [intCells] at hj
    subst hj
    have hi : i < 2 := (List.getElem?_eq_some_iff.1 hz).1
    have hc : i = 0 ∨ i = 1 := by omega
    rw [h.cell]
    rcases hc with rfl | rfl <;> simp at hz <;> subst hz <;> rfl
/-- what a net may turn lies no lower than its world. -/
theorem NetAt.done {w0 w w' : World} {a : NAd} {ss rs : List Int} {p t : Int} {uv : Value} {us : List RLetter} {K : Nat} {S : Nat → NSt} (h : NetAt w a ss rs p t uv us K S) (hb : Below w0.heap.size w0 w) (hg : w0.heap.size ≤ a.g) (hK : Kept (NetMine a uv) w w') : Below w0.heap.size w0 w' := by
  have hgB := h.g_ne
  refine hb.trans (hK.toBelow hb.size (fun k e => ?_))
  rcases e with rfl | e | ⟨i, hi, e⟩
  · exact hg
  · have := (h.W.low k e).1; omega
  · have := h.ad.Bg i hi
    rcases e with rfl | rfl <;> omega
theorem shows_len (ss rs : List Int) (t : Int) (n : Nat) : (shows ss rs t n).length = n := by simp [shows]
theorem shows_succ (ss rs : List Int) (t : Int) (n : Nat) : shows ss rs t (n + 1) = shows ss rs t n ++ [hereAt ss rs t n] := by unfold shows; rw [List.range_succ, List.map_append]; rfl
theorem TrueN.shows_ok {n : Nat} {ss rs : List Int} {p t : Int} {us : List RLetter} {S : Nat → NSt} (h : TrueN n ss rs p t us S) : ∀ z ∈ shows ss rs t n, 0 ≤ z ∧ z ≤ 1002000000 := by
  intro z hz
  obtain ⟨i, hi, rfl⟩ := List.mem_map.1 hz
  exact h.C.bd (List.mem_range.1 hi) h.t0 h.t1
end Go.Proofs.YtfjpfkejajgkbaaDoor

/- A tree over true edges: it has no fault, and what it says of a node is true. No program stands here. -/
namespace Go.Proofs.YtfjpfkejajgkbaaDoor
open Go.RowKit
set_option linter.unusedVariables false
set_option linter.unusedSimpArgs false
/-- edges that are true of what clocks show. -/
def TrueE (n : Nat) (h : Nat → Int) (W : Int) (l : List REdge) : Prop :=
  ∀ e ∈ l, ∃ i j : Nat, e.a = i ∧ e.b = j ∧ i < n ∧ j < n ∧ i ≠ j ∧ e.lo ≤ h j - h i ∧ h j - h i ≤ e.hi ∧ -W ≤ e.lo ∧ e.hi ≤ W
structure SpT (h : Nat → Int) (W : Int) (n root k : Nat) (seen : List Int) (out : List RSpan) (inn : List Bool) : Prop where
  ol : out.length = n
  il : inn.length = n
  yes : ∀ x : Nat, (x : Int) ∈ seen → inn[x]? = some true ∧ ∃ s, out[x]? = some s ∧ s.lo ≤ h x - h root ∧ h x - h root ≤ s.hi ∧ -((k : Int) * W) ≤ s.lo ∧ s.hi ≤ (k : Int) * W
  no : ∀ x : Nat, x < n → (x : Int) ∉ seen → inn[x]? = some false
theorem spGo_t {l : List REdge} {n root : Nat} {h : Nat → Int} {W : Int} (hl : EdgesOk n l) (ht : TrueE n h W l) (hW0 : 0 ≤ W) (hW1 : W ≤ 100000000000) (h6 : n ≤ 6) {T : TS} (ho : TOk l n root T) (hp : TPar l T) :
    ∀ m k out inn, 1 ≤ k → k + m = T.row.length → SpT h W n root k (T.row.take k) out inn → ∃ o b, spGo l T.by_ (T.row.drop k) out inn = some (o, b) ∧ SpT h W n root (k + m) T.row o b := by
  intro m
  induction m with
  | zero =>
    intro k out inn h1 hk g
    rw [spGo_end (by omega)]
    rw [List.take_of_length_le (by omega)] at g
    exact ⟨out, inn, rfl, g⟩
  | succ m ih =>
    intro k out inn h1 hk g
    have hx : T.row[k]? = some T.row[k] := List.getElem?_eq_getElem (by omega)
    obtain ⟨x, hxe⟩ : ∃ x, T.row[k] = x := ⟨_, rfl⟩
    rw [hxe] at hx
    rw [spGo_at hx]
    have hxb := ho.rb x (List.mem_of_getElem? hx)
    obtain ⟨y, rfl⟩ := Int.eq_ofNat_of_zero_le hxb.1
    have hyn : y < n := by omega
    have hlen := ho.len
    obtain ⟨kk, e, p, q1, q2, q3, q4⟩ := hp k _ h1 hx
    have hpm := ho.rb p (List.mem_of_mem_take q3)
    obtain ⟨z, rfl⟩ := Int.eq_ofNat_of_zero_le hpm.1
    have hzn : z < n := by omega
    obtain ⟨_, f, f1, f2, f3, f4, f5⟩ := g.yes z q3
    have hem := List.mem_of_getElem? q2
    obtain ⟨i, j, e1, e2, hi, hj, hne, a1, a2, a3, a4⟩ := ht e hem
    have hkW : ((k : Int) + 1) * W = (k : Int) * W + W := by rw [Int.add_mul, Int.one_mul]
    have hk5 : (k : Int) * W ≤ 5 * W := Int.mul_le_mul_of_nonneg_right (by omega) hW0
    simp only [Int.toNat_natCast] at q1
    have said : rightB (spSum l T.by_ out y).lo (spSum l T.by_ out y).hi = true ∧ (spSum l T.by_ out y).lo ≤ h y - h root ∧ h y - h root ≤ (spSum l T.by_ out y).hi ∧ -(((k : Int) + 1) * W) ≤ (spSum l T.by_ out y).lo ∧ (spSum l T.by_ out y).hi ≤ ((k : Int) + 1) * W := by
      rw [hkW]
      rcases q4 with ⟨u1, u2⟩ | ⟨u1, u2, u3⟩
      · rw [spSum_eq q1 q2 f1 (by rw [if_pos u1, u2]), if_pos u1]
        obtain rfl : i = y := by omega
        obtain rfl : j = z := by omega
        rw [rightB_iff]
        simp only []
        omega
      · rw [spSum_eq q1 q2 f1 (by rw [if_neg u3, u2]), if_neg u3]
        obtain rfl : j = y := by omega
        obtain rfl : i = z := by omega
        rw [rightB_iff]
        simp only []
        omega
    obtain ⟨S, hS⟩ : ∃ S, spSum l T.by_ out y = S := ⟨_, rfl⟩
    rw [hS] at said ⊢
    rw [if_pos said.1]
    simp only [Int.toNat_natCast]
    have := ih (k + 1) (out.set y S) (inn.set y true) (by omega) (by omega) ⟨by simp [g.ol], by simp [g.il], fun v hv => ?_, fun v hvn hv => ?_⟩
    · rw [show k + (m + 1) = k + 1 + m by omega]
      exact this
    · rw [List.take_add_one, hx] at hv
      by_cases e1 : y = v
      · subst e1
        exact ⟨by rw [List.getElem?_set, if_pos rfl, if_pos (by rw [g.il]; omega)], S, by rw [List.getElem?_set, if_pos rfl, if_pos (by rw [g.ol]; omega)], by rw [Int.natCast_succ]; exact said.2⟩
      · rcases List.mem_append.1 hv with hv | hv
        · obtain ⟨g1, s, g2, g3, g4, g5, g6⟩ := g.yes v hv
          refine ⟨by rw [List.getElem?_set, if_neg e1]; exact g1, s, by rw [List.getElem?_set, if_neg e1]; exact g2, g3, g4, ?_⟩
          rw [Int.natCast_succ, hkW]
          omega
        · simp at hv; omega
    · rw [List.take_add_one, hx] at hv
      have e1 : y ≠ v := by
        rintro rfl
        exact hv (List.mem_append.2 (.inr (by simp)))
      rw [List.getElem?_set, if_neg e1]
      exact g.no v hvn (fun q => hv (List.mem_append.2 (.inl q)))
/-- what the tree says of a node is true. -/
theorem spD_t {l : List REdge} {N R : Nat} {h : Nat → Int} {W : Int} (hR : R < N) (h6 : N ≤ 6) (hl : EdgesOk N l) (ht : TrueE N h W l) (hW0 : 0 ≤ W) (hW1 : W ≤ 100000000000) :
    ∃ o b, spD N R l = some (o, b) ∧ o.length = N ∧ b.length = N ∧ ∀ x, x < N → (b[x]? = some true ∧ ∃ s, o[x]? = some s ∧ hasB s.lo s.hi (h x - h R) = true) ∨ b[x]? = some false := by
  have ho := TOk.st (l := l) (n := N) (root := R) hR hl N
  have hp := TPar.st (l := l) (n := N) (root := R) hR hl N
  obtain ⟨t, htl⟩ := ho.hd
  have hlen := ho.len
  unfold spD
  rw [← List.drop_one]
  have hpos := ho.pos
  have e2 : (tFin l N R).row.length = (tSt l N R N).row.length := rfl
  have st : SpT h W N R 1 ((tFin l N R).row.take 1) (List.replicate N ⟨0, 0⟩) ((List.replicate N false).set R true) := by
    have e : (tFin l N R).row = (R : Int) :: t := htl
    refine ⟨by simp, by simp, fun x hx => ?_, fun x hx hn => ?_⟩
    · rw [e] at hx
      simp at hx
      have : x = R := by omega
      subst this
      refine ⟨by rw [List.getElem?_set, if_pos rfl, if_pos (by simpa using hR)], ⟨0, 0⟩, by rw [List.getElem?_replicate, if_pos hR], ?_⟩
      have : (0 : Int) ≤ ((1 : Nat) : Int) * W := by omega
      simp only []
      omega
    · rw [e] at hn
      simp at hn
      rw [List.getElem?_set, if_neg (by omega), List.getElem?_replicate, if_pos hx]
  obtain ⟨o, b, hob, hw⟩ := spGo_t hl ht hW0 hW1 h6 (T := tFin l N R) ho hp ((tFin l N R).row.length - 1) 1 (List.replicate N ⟨0, 0⟩) ((List.replicate N false).set R true) (Nat.le_refl _) (by omega) st
  refine ⟨o, b, hob, hw.ol, hw.il, fun x hx => ?_⟩
  by_cases q : (x : Int) ∈ (tFin l N R).row
  · obtain ⟨g1, s, g2, g3, g4, g5, g6⟩ := hw.yes x q
    refine .inl ⟨g1, s, g2, ?_⟩
    have hkb : ((1 + ((tFin l N R).row.length - 1) : Nat) : Int) * W ≤ 6 * W := Int.mul_le_mul_of_nonneg_right (by omega) hW0
    unfold hasB
    rw [rightB_iff.2 (by omega)]
    simp; omega
  · exact .inr (hw.no x hx q)
end Go.Proofs.YtfjpfkejajgkbaaDoor

/- What a net of true clocks tells, for what reads it. No program stands here. -/
namespace Go.Proofs.YtfjpfkejajgkbaaDoor
open Go.RowKit
set_option linter.unusedVariables false
set_option linter.unusedSimpArgs false
theorem TrueN.offset_in {n : Nat} {ss rs : List Int} {p t : Int} {us : List RLetter} {S : Nat → NSt} (h : TrueN n ss rs p t us S) (h1 : 1 ≤ n) {a b : Int} {x : RSpan} {c : Int} (hO : OffS n (hereAt ss rs t) S a b x c) :
    c ≠ 0 ∨ (c = 0 ∧ ∃ i k : Nat, a = i ∧ b = k ∧ i < n ∧ k < n ∧ hasB x.lo x.hi (hereAt ss rs t k - hereAt ss rs t i) = true) := by
  by_cases hc : c = 0
  · have hn : (nodeB (n : Int) a && nodeB (n : Int) b) = true := by
      rcases hO with ⟨_, h0, _⟩ | ⟨h0, _⟩
      · omega
      · exact h0
    rw [Bool.and_eq_true, nodeB_iff, nodeB_iff] at hn
    obtain ⟨i, rfl⟩ := Int.eq_ofNat_of_zero_le (show 0 ≤ a by omega)
    obtain ⟨k, rfl⟩ := Int.eq_ofNat_of_zero_le (show 0 ≤ b by omega)
    refine .inr ⟨hc, i, k, rfl, rfl, by omega, by omega, ?_⟩
    rcases h.offset h1 (by omega) (by omega) hO with h5 | h5
    · omega
    · exact h5.2
  · exact .inl hc
end Go.Proofs.YtfjpfkejajgkbaaDoor

/- Edges of true clocks: no loop is at fault, and spans of one pair have the true difference. No program stands here. -/
namespace Go.Proofs.YtfjpfkejajgkbaaDoor
open Go.RowKit
set_option linter.unusedVariables false
set_option linter.unusedSimpArgs false
variable {n : Nat} {ss rs : List Int} {p t : Int} {us : List RLetter} {S : Nat → NSt}
theorem TrueN.trueE (h : TrueN n ss rs p t us S) : TrueE n (hereAt ss rs t) 20000000000 (netL (hereAt ss rs t) S n) := fun _ he => h.edge he
theorem TrueN.no_sunk (h : TrueN n ss rs p t us S) (h1 : 1 ≤ n) (k m : Nat) : ¬ Sunk (Arc ((netL (hereAt ss rs t) S n).take m)) k := by
  intro g
  obtain ⟨v, r, c, g1, g2, g3⟩ := g
  exact fit_not_sunk (h.fits h1) (k := k) ⟨v, r, c, g1, g2, g3.mono (fun _ _ _ q => q.mono (fun e he => List.mem_of_mem_take he))⟩
theorem TrueN.find (h : TrueN n ss rs p t us S) (h1 : 1 ≤ n) {k : Int} {loop : List Int} (hf : FindS n (netL (hereAt ss rs t) S n) k loop) : k = 5 := by
  rcases hf with ⟨h0, _⟩ | ⟨_, h0, _⟩
  · exact h0
  · exact absurd h0 (fit_not_sunk (h.fits h1))
theorem TrueN.fault (h : TrueN n ss rs p t us S) (h1 : 1 ≤ n) {v c : Int} (hf : FaultS n (netL (hereAt ss rs t) S n) v c) : c = 5 := by
  rcases hf with ⟨_, i, _, _, h0, _⟩ | ⟨h0, _⟩
  · exact absurd h0 (h.no_sunk h1 n (i + 1))
  · exact h0
/-- what is said of two nodes, by edges that have just these. -/
def saidOne (root : Int) (i : Int) (e : REdge) : Bool := decide (e.a = root) && decide (e.b = i)
def saidL (l : List REdge) (root i : Int) (k : Nat) : List RSpan := ((l.take k).filter (saidOne root i)).map fun e => ⟨e.lo, e.hi⟩
theorem said_yes {l : List REdge} {root i : Int} {k : Nat} {e : REdge} (he : l[k]? = some e) (h : saidOne root i e = true) : saidL l root i (k + 1) = saidL l root i k ++ [⟨e.lo, e.hi⟩] := by
  unfold saidL
  rw [List.take_add_one, he, List.filter_append, List.map_append]
  simp [h]
theorem said_no {l : List REdge} {root i : Int} {k : Nat} {e : REdge} (he : l[k]? = some e) (h : saidOne root i e = false) : saidL l root i (k + 1) = saidL l root i k := by
  unfold saidL
  rw [List.take_add_one, he, List.filter_append, List.map_append]
  simp [h]
theorem said_len (l : List REdge) (root i : Int) (k : Nat) : (saidL l root i k).length ≤ k := by
  unfold saidL
  rw [List.length_map]
  exact Nat.le_trans (List.length_filter_le _ _) (by rw [List.length_take]; omega)
theorem said_true {l : List REdge} {h : Nat → Int} {W : Int} (hl : EdgesOk n l) (ht : TrueE n h W l) {root i : Nat} {k : Nat} : ∀ z ∈ saidL l root i k, (z.lo ≤ h i - h root ∧ h i - h root ≤ z.hi) ∧ spB z = true ∧ RSpan.ok z := by
  intro z hz
  unfold saidL at hz
  obtain ⟨e, he, rfl⟩ := List.mem_map.1 hz
  obtain ⟨he1, he2⟩ := List.mem_filter.1 he
  have hm := List.mem_of_mem_take he1
  obtain ⟨x, y, e1, e2, hx, hy, _, a1, a2, a3, a4⟩ := ht e hm
  unfold saidOne at he2
  rw [Bool.and_eq_true, decide_eq_true_eq, decide_eq_true_eq] at he2
  obtain rfl : x = root := by omega
  obtain rfl : y = i := by omega
  obtain ⟨_, _, _, _, _, q1, q2, q3⟩ := hl e hm
  have q : rightB e.lo e.hi = true := rightB_iff.2 ⟨q2, q1, q3⟩
  refine ⟨⟨a1, a2⟩, q, ?_⟩
  unfold RSpan.ok i64B
  simp only []
  omega
theorem said_C {l : List REdge} {h : Nat → Int} {W : Int} (hl : EdgesOk n l) (ht : TrueE n h W l) (h40 : l.length ≤ 40) {root i : Nat} (h0 : (saidL l root i l.length).length ≠ 0) : spansC (saidL l root i l.length) = 0 := by
  have hle := said_len l root i l.length
  unfold spansC
  rw [if_neg (by omega), if_neg h0, if_neg]
  rw [badS_no (fun x hx => (said_true hl ht x hx).2.1)]
  simp
end Go.Proofs.YtfjpfkejajgkbaaDoor
