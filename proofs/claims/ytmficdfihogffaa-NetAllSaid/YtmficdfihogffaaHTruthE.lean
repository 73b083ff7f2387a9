/- A net of true clocks: its edges are true, and what it tells of two clocks. No program stands here. -/
import Derived.Test.YtmficdfihogffaaHTruthN
import Derived.Test.YtmficdfihogffaaHNetO
import Derived.Test.YtmficdfihogffaaHHoldP
import Derived.Test.YtmficdfihogffaaHTellP
namespace Go.Proofs.Ytmficdfihogffaa
open Go.RowKit
set_option linter.unusedVariables false
set_option linter.unusedSimpArgs false
variable {n : Nat} {ss rs : List Int} {p t t' : Int} {us us' : List RLetter} {S S' : Nat → NSt}
theorem act_true (h : TrueN n ss rs p t us S) (ls : ss.length = n) {A : RAct} {c : Int} {got : Option RLetter} (ha : WAct n ss rs t us A c got t' us') : TrueN n ss rs p t' us' S ∧ (∀ L, got = some L → LHas n L ∧ TrueL ss rs t' L) ∧ c ≠ 7 := by
  have same : TrueN n ss rs p t us S := h
  have less : ∀ j, TrueN n ss rs p t (us.eraseIdx j) S := fun j => h.later (Int.le_refl _) h.t1 (fun L hL => h.L L (List.mem_of_mem_eraseIdx hL))
  cases ha with
  | gone a b h0 h1 h2 => exact ⟨h.later (by omega) h2 (fun L hL => ⟨(h.L L hL).1, (h.L L hL).2.mono (by omega)⟩), by simp, by omega⟩
  | ask i k s r hs hr hk hne hl =>
    have hi : i < n := by rw [← ls]; exact (List.getElem?_eq_some_iff.1 hs).1
    refine ⟨h.later (Int.le_refl _) h.t1 (fun L hL => ?_), by simp, by omega⟩
    rcases List.mem_append.1 hL with h1 | h1
    · exact h.L L h1
    · rw [List.mem_singleton] at h1; subst h1
      exact ⟨⟨⟨by show (0 : Int) ≤ i; omega, by show (i : Int) < n; omega⟩, ⟨by show (0 : Int) ≤ k; omega, by show (k : Int) < n; omega⟩⟩, .inl ⟨rfl, i, rfl, t, h.t0, Int.le_refl _, (hereAt_eq hs hr).symm⟩⟩
  | deliver j L b hj => exact ⟨less j, fun L' e => by cases e; exact h.L L (List.mem_of_getElem? hj), by omega⟩
  | lose j L b hj => exact ⟨less j, by simp, by omega⟩
  | again j L b hj => exact ⟨same, fun L' e => by cases e; exact h.L L (List.mem_of_getElem? hj), by omega⟩
  | _ => exact ⟨same, by simp, by omega⟩
theorem ans_true (h : TrueN n ss rs p t us S) (ls : ss.length = n) {L : RLetter} {c : Int} (hT : TrueL ss rs t L) (ha : WAns n ss rs t us L c us') : TrueN n ss rs p t us' S ∧ c ≠ 7 := by
  cases ha with
  | ok i k s r t1 t2 lt hs hr hi hl =>
    have hk : k < n := by rw [← ls]; exact (List.getElem?_eq_some_iff.1 hs).1
    refine ⟨h.later (Int.le_refl _) h.t1 (fun L hL => ?_), by omega⟩
    rcases List.mem_append.1 hL with h1 | h1
    · exact h.L L h1
    · rw [List.mem_singleton] at h1; subst h1
      refine ⟨⟨⟨by show (0 : Int) ≤ k; omega, by show (k : Int) < n; omega⟩, ⟨by show (0 : Int) ≤ i; omega, by show (i : Int) < n; omega⟩⟩, .inr ⟨rfl, i, k, rfl, rfl, ?_⟩⟩
      rcases hT with ⟨_, i', e, t0, h2, h3, h4⟩ | ⟨e, _⟩
      · have e' : (i : Int) = i' := e
        obtain rfl : i = i' := by omega
        exact ⟨t0, t, h2, h3, Int.le_refl _, h4, (hereAt_eq hs hr).symm, (hereAt_eq hs hr).symm⟩
      · cases e
  | _ => exact ⟨h, by omega⟩
theorem nact_true (h : TrueN n ss rs p t us S) (ls : ss.length = n) {A : RAct} {c : Int} (ha : NAct n ss rs t us S A c t' us' S') : TrueN n ss rs p t' us' S' ∧ c ≠ 7 := by
  have hear : ∀ {A : RAct} {t' : Int} {us' : List RLetter} {L : RLetter} {d : Nat} {s r : Int} {b : Bool} {c : Int} {s' : NSt}, WAct n ss rs t us A 0 (some L) t' us' → L.dst = (d : Int) → ss[d]? = some s → rs[d]? = some r → Hears (S d) L (readV s r t') b c s' → (c = 0 ∨ c = 3) ∧ TrueN n ss rs p t' us' (updS S d s') ∧ TrueL ss rs t' L := by
    intro A t' us' L d s r b c s' hw hd hs hr hh
    obtain ⟨h1, h2, _⟩ := act_true h ls hw
    obtain ⟨h3, h4⟩ := h2 L rfl
    rw [← hereAt_eq hs hr] at hh
    have := h1.hears (by rw [← ls]; exact (List.getElem?_eq_some_iff.1 hs).1) h3 h4 hd hh
    exact ⟨this.1, this.2, h4⟩
  cases ha with
  | quiet _ _ _ hw => obtain ⟨h1, _, h3⟩ := act_true h ls hw; exact ⟨h1, h3⟩
  | bad _ _ L d s r b _ s' hw hd hs hr hh hc =>
    obtain ⟨h1, h2, _⟩ := hear hw hd hs hr hh
    exact ⟨h2, by omega⟩
  | told _ _ L d s r b s' hw hd hs hr hh ha => exact ⟨(hear hw hd hs hr hh).2.1, by omega⟩
  | asked _ us1 _ L d s r b _ s' hw hd hs hr hh ha hwa =>
    obtain ⟨_, h2, h3⟩ := hear hw hd hs hr hh
    exact ans_true h2 ls h3 hwa
theorem TrueN.tell (h : TrueN n ss rs p t us S) {i : Nat} (hi : i < n) : tellC (S i) (hereAt ss rs t i) = 0 := by
  refine tell_ok (h.not_back hi) (fun j hj => ?_)
  unfold farAt
  cases hf : (S i).f j with
  | none => rfl
  | some k =>
    obtain ⟨_, _, _, a1, a2, a3, a4⟩ := h.age hi hf
    rw [(h.sN i hi).2.2]
    show (!rightB _ _) = false
    rw [rightB_iff.2 (by omega)]
    rfl
theorem TrueN.netC (h : TrueN n ss rs p t us S) : ∀ k, k ≤ n → netC (hereAt ss rs t) S k = 0
  | 0, _ => rfl
  | k + 1, hk => by
    show (if Go.Proofs.Ytmficdfihogffaa.netC (hereAt ss rs t) S k = 0 then tellC (S k) (hereAt ss rs t k) else _) = 0
    rw [if_pos (h.netC k (by omega))]
    exact h.tell (by omega)
/-- an edge that is told is true. -/
theorem TrueN.edge (h : TrueN n ss rs p t us S) {e : REdge} (he : e ∈ netL (hereAt ss rs t) S n) : ∃ i j : Nat, e.a = i ∧ e.b = j ∧ i < n ∧ j < n ∧ i ≠ j ∧ e.lo ≤ hereAt ss rs t j - hereAt ss rs t i ∧ hereAt ss rs t j - hereAt ss rs t i ≤ e.hi ∧ -20000000000 ≤ e.lo ∧ e.hi ≤ 20000000000 := by
  obtain ⟨i, hi, he⟩ := List.mem_flatMap.1 he
  have hi := List.mem_range.1 hi
  unfold tellE at he
  rw [if_pos (h.tell hi)] at he
  obtain ⟨j, hj, he⟩ := List.mem_flatMap.1 he
  have hj := List.mem_range.1 hj
  rw [(h.sN i hi).1] at hj
  unfold edgeAt at he
  split at he
  · rename_i g
    rw [List.mem_singleton] at he
    subst he
    rw [(h.sN i hi).2.1] at g ⊢
    obtain ⟨g1, g2⟩ := g
    unfold hasAt at g1
    cases hf : (S i).f j with
    | none => rw [hf, (h.sN i hi).2.1] at g1; simp at g1; exact absurd g1 g2
    | some k =>
      obtain ⟨j', e1, e2, a1, a2, a3, a4⟩ := h.age hi hf
      obtain rfl : j = j' := by omega
      refine ⟨i, j, rfl, rfl, hi, hj, fun e => g2 e.symm, ?_⟩
      unfold spanAt
      rw [hf, (h.sN i hi).2.2]
      exact ⟨a1, a2, a3, a4⟩
  · simp at he
theorem edgesGo_all {N : Int} : ∀ {l : List REdge}, (∀ e ∈ l, edgeC N e = 0) → edgesGo N l = 0
  | [], _ => rfl
  | e :: l, h => by
    show (if edgeC N e = 0 then edgesGo N l else edgeC N e) = 0
    rw [if_pos (h e (by simp))]
    exact edgesGo_all fun x hx => h x (by simp [hx])
theorem TrueN.edgesC (h : TrueN n ss rs p t us S) (h1 : 1 ≤ n) : edgesC n (netL (hereAt ss rs t) S n) = 0 := by
  have h6 := h.C.n6
  have hl := netL_len (h := hereAt ss rs t) (S := S) (n := n) (fun i hi => (h.sN i hi).1) n (Nat.le_refl _)
  have hm := Nat.mul_le_mul h6 h6
  unfold Go.Proofs.Ytmficdfihogffaa.edgesC
  rw [if_neg (by omega), if_neg (by omega)]
  refine edgesGo_all fun e he => ?_
  obtain ⟨i, j, e1, e2, hi, hj, hne, a1, a2, a3, a4⟩ := h.edge he
  unfold edgeC
  rw [if_pos ⟨nodeB_iff.2 (by omega), nodeB_iff.2 (by omega)⟩, if_neg (by omega), rightB_iff.2 (by omega)]
  rfl
/-- what the clocks show. -/
def shows (ss rs : List Int) (t : Int) (n : Nat) : List Int := (List.range n).map (hereAt ss rs t)
theorem shows_get {i : Nat} (hi : i < n) : (shows ss rs t n)[i]? = some (hereAt ss rs t i) := by unfold shows; rw [List.getElem?_map, List.getElem?_range hi]; rfl
theorem shows_getD {i : Nat} (hi : i < n) : (shows ss rs t n).getD i 0 = hereAt ss rs t i := by rw [List.getD_eq_getElem?_getD, shows_get hi]; rfl
theorem TrueN.fitsC (h : TrueN n ss rs p t us S) (h1 : 1 ≤ n) : fitsC n (netL (hereAt ss rs t) S n) (shows ss rs t n) = 0 := by
  unfold Go.Proofs.Ytmficdfihogffaa.fitsC
  rw [if_pos (h.edgesC h1), if_pos (by simp [shows])]
  have : (shows ss rs t n).all timeB = true := by
    rw [List.all_eq_true]
    intro x hx
    obtain ⟨i, hi, rfl⟩ := List.mem_map.1 hx
    have := h.C.bd (List.mem_range.1 hi) h.t0 h.t1
    exact timeB_iff.2 (by omega)
  rw [this]
  rfl
theorem TrueN.fits (h : TrueN n ss rs p t us S) (h1 : 1 ≤ n) : fitsV n (netL (hereAt ss rs t) S n) (shows ss rs t n) = true := by
  unfold fitsV
  rw [h.fitsC h1]
  simp only [decide_true, Bool.true_and, List.all_eq_true]
  intro e he
  obtain ⟨i, j, e1, e2, hi, hj, hne, a1, a2, a3, a4⟩ := h.edge he
  unfold fitB
  rw [e1, e2]
  simp only [Bool.and_eq_true, decide_eq_true_eq, Int.toNat_natCast]
  rw [shows_getD hi, shows_getD hj]
  exact ⟨a1, a2⟩
theorem way_cost {A : Nat → Nat → Int → Prop} {W : Int} (hA : ∀ x y w, A x y w → -W ≤ w ∧ w ≤ W) {a b r : Nat} {c : Int} (h : Way A a b r c) : -((r : Int) * W) ≤ c ∧ c ≤ (r : Int) * W := by
  induction h with
  | start => simp
  | go _ hw ih =>
    have := hA _ _ _ hw
    rw [Int.natCast_succ, Int.add_mul]
    omega
/-- what is told of two clocks. -/
theorem TrueN.offset (h : TrueN n ss rs p t us S) (h1 : 1 ≤ n) {a b : Nat} (ha : a < n) (hb : b < n) {x : RSpan} {c : Int} (hO : OffS n (hereAt ss rs t) S a b x c) : c = 5 ∨ (c = 0 ∧ hasB x.lo x.hi (hereAt ss rs t b - hereAt ss rs t a) = true) := by
  have hnd : (nodeB (n : Int) (a : Int) && nodeB (n : Int) (b : Int)) = true := by rw [nodeB_iff.2 (by omega), nodeB_iff.2 (by omega)]; rfl
  rcases hO with ⟨h0, _⟩ | ⟨_, ⟨h0, _⟩ | ⟨_, hB⟩⟩
  · rw [hnd] at h0; cases h0
  · exact absurd (h.netC n (Nat.le_refl _)) h0
  · have hfit := h.fits h1
    have hA : ∀ x y w, Arc (netL (hereAt ss rs t) S n) x y w → x < n ∧ y < n := by
      rintro x y w ⟨e, he, hx⟩
      obtain ⟨i, j, e1, e2, hi, hj, _⟩ := h.edge he
      rcases hx with ⟨q1, q2, _⟩ | ⟨q1, q2, _⟩ <;> omega
    have hW : ∀ x y w, Arc (netL (hereAt ss rs t) S n) x y w → -20000000000 ≤ w ∧ w ≤ 20000000000 := by
      rintro x y w ⟨e, he, hx⟩
      obtain ⟨i, j, e1, e2, hi, hj, _, a1, a2, a3, a4⟩ := h.edge he
      have b1 := h.C.bd hi h.t0 h.t1
      have b2 := h.C.bd hj h.t0 h.t1
      rcases hx with ⟨_, _, q3⟩ | ⟨_, _, q3⟩ <;> omega
    have hns : ¬ Sunk (Arc (netL (hereAt ss rs t) S n)) n := fit_not_sunk hfit
    by_cases hc : c = 0
    · subst hc
      right
      obtain ⟨n', a', b', e1, e2, e3, hok⟩ := bet_ok hB
      obtain rfl : n = n' := by omega
      obtain rfl : a = a' := by omega
      obtain rfl : b = b' := by omega
      have := bet_in hok hfit
      rw [shows_getD ha, shows_getD hb] at this
      exact ⟨rfl, this⟩
    · left
      rcases hB with ⟨g, _⟩ | ⟨_, g, _⟩ | ⟨_, _, ⟨g, _⟩ | ⟨_, D, hD, ⟨⟨i, j, hi, hj, hT⟩, _⟩ | ⟨_, ⟨_, g, _⟩ | ⟨_, g, _⟩⟩⟩⟩
      · exact absurd (h.edgesC h1) g
      · rw [hnd] at g; cases g
      · simp only [Int.toNat_natCast] at g; exact absurd g hns
      · simp only [Int.toNat_natCast] at hi hj hD
        exfalso
        apply hT
        intro hf
        have near : ∀ u v, u < n → v < n → D u v < farI → timeB (D u v) = true ∧ timeB (-(D u v)) = true := by
          intro u v hu hv huv
          rcases hD u v hu hv with ⟨q, _⟩ | ⟨_, ⟨r, hr⟩, hmin⟩
          · have q' : decide (D u v < farI) = false := q
            rw [decide_eq_true huv] at q'; cases q'
          · rcases Way.short hA hu r v _ hr with ⟨r', c', q1, q2, q3⟩ | ⟨v', e', c', q1, q2, q3, q4⟩
            · have := hmin _ _ q3
              have hcost := way_cost hW q3
              have hn6 := h.C.n6
              have hr5 : (r' : Int) * 20000000000 ≤ 5 * 20000000000 := Int.mul_le_mul_of_nonneg_right (by omega) (by omega)
              exact ⟨timeB_iff.2 (by omega), timeB_iff.2 (by omega)⟩
            · exact absurd ⟨v', e', c', q1, q3, q4⟩ hns
        have hrev := tells_rev hD hi hj (decide_eq_true hf)
        exact ⟨(near i j hi hj hf).1, (near j i hj hi (of_decide_eq_true hrev)).2⟩
      · exact g
      · exact absurd g hc
/-- a new net is true. -/
theorem new_true {zs ys : List Int} (hc : newC zs ys p = 0) (hl : zs.length = n) : TrueN n zs ys p 0 [] (fun i => NSt.start n i p) := by
  obtain ⟨r1, r2, r3, r4, r5⟩ := newC_0 hc
  obtain ⟨p0, p1⟩ := rateB_iff.1 r1
  obtain ⟨sb, _⟩ := clocksB_get r5 r4 p1
  have rb := clocksB_rate r5 r4
  have gs : ∀ i, i < n → ∃ s, zs[i]? = some s := fun i hi => ⟨_, List.getElem?_eq_getElem (by omega)⟩
  have gr : ∀ i, i < n → ∃ s, ys[i]? = some s := fun i hi => ⟨_, List.getElem?_eq_getElem (by omega)⟩
  have C : Clocks n zs ys p := ⟨by omega, p0, p1, fun i hi => by obtain ⟨s, hs⟩ := gs i hi; rw [List.getD_eq_getElem?_getD, hs]; exact sb i s hs, fun i hi => by obtain ⟨s, hs⟩ := gr i hi; rw [List.getD_eq_getElem?_getD, hs]; exact rb i s hs⟩
  refine ⟨C, by omega, by omega, by simp, fun i hi => NSt.start_ok (by omega) (by omega) hi p0 p1, fun i hi => ⟨rfl, rfl, rfl⟩, fun i hi => ?_, fun i hi x k hk => by cases hk⟩
  have := C.bd (t := 0) hi (by omega) (by omega)
  show (-1 : Int) ≤ _
  omega
end Go.Proofs.Ytmficdfihogffaa
