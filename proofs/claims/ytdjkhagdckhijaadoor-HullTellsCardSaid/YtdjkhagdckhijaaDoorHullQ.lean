/- The upper hull of points: of any points, which corners there are, and how high it is. No program stands here. -/
import Derived.Test.YtdjkhagdckhijaaDoorHullP
namespace Go.Proofs.YtdjkhagdckhijaaDoor
set_option linter.unusedVariables false
set_option linter.unusedSimpArgs false
/-- of points that rise by X, the first one of each X. -/
def compAfter (a : RPoint) : List RPoint → List RPoint
  | [] => []
  | b :: l => if b.x = a.x then compAfter b l else b :: compAfter b l
def compX : List RPoint → List RPoint
  | [] => []
  | a :: l => a :: compAfter a l
/-- rising by X; of one X the highest first. -/
def OrdX (l : List RPoint) : Prop := l.Pairwise fun a b => a.x < b.x ∨ (a.x = b.x ∧ b.y ≤ a.y)
theorem comp_sub (l : List RPoint) : ∀ a, ∀ p ∈ compAfter a l, p ∈ l := by
  induction l with
  | nil => intro a p h; simp [compAfter] at h
  | cons b l ih =>
    intro a p h
    unfold compAfter at h
    split at h
    · exact List.mem_cons_of_mem _ (ih b p h)
    · rcases List.mem_cons.1 h with rfl | h
      · simp
      · exact List.mem_cons_of_mem _ (ih b p h)
theorem compX_sub {l : List RPoint} : ∀ p ∈ compX l, p ∈ l := by
  cases l with
  | nil => simp [compX]
  | cons a l =>
    intro p h
    rcases List.mem_cons.1 h with rfl | h
    · simp
    · exact List.mem_cons_of_mem _ (comp_sub l a p h)
theorem comp_rise (l : List RPoint) : ∀ a, OrdX (a :: l) → (∀ p ∈ compAfter a l, a.x < p.x) ∧ RiseX (compAfter a l) ∧ ∀ q ∈ l, (q.x = a.x ∧ q.y ≤ a.y) ∨ ∃ p ∈ compAfter a l, p.x = q.x ∧ q.y ≤ p.y := by
  induction l with
  | nil => intro a _; exact ⟨by simp [compAfter], by simp [compAfter, RiseX], by simp⟩
  | cons b l ih =>
    intro a h
    have hb : OrdX (b :: l) := (List.pairwise_cons.1 h).2
    have hab := (List.pairwise_cons.1 h).1 b (by simp)
    obtain ⟨i1, i2, i3⟩ := ih b hb
    unfold compAfter
    split
    · rename_i e
      refine ⟨fun p hp => by have := i1 p hp; omega, i2, fun q hq => ?_⟩
      rcases List.mem_cons.1 hq with rfl | hq
      · exact .inl ⟨e, by omega⟩
      · rcases i3 q hq with ⟨q1, q2⟩ | q1
        · exact .inl ⟨by omega, by omega⟩
        · exact .inr q1
    · rename_i e
      have hlt : a.x < b.x := by omega
      refine ⟨fun p hp => ?_, List.pairwise_cons.2 ⟨i1, i2⟩, fun q hq => .inr ?_⟩
      · rcases List.mem_cons.1 hp with rfl | hp
        · exact hlt
        · have := i1 p hp; omega
      · rcases List.mem_cons.1 hq with rfl | hq
        · exact ⟨q, by simp, rfl, Int.le_refl _⟩
        · rcases i3 q hq with ⟨q1, q2⟩ | ⟨p, p1, p2, p3⟩
          · exact ⟨b, by simp, by omega, q2⟩
          · exact ⟨p, List.mem_cons_of_mem _ p1, p2, p3⟩
theorem compX_rise {l : List RPoint} (h : OrdX l) : RiseX (compX l) ∧ ∀ q ∈ l, ∃ p ∈ compX l, p.x = q.x ∧ q.y ≤ p.y := by
  cases l with
  | nil => exact ⟨by simp [compX, RiseX], by simp⟩
  | cons a l =>
    obtain ⟨i1, i2, i3⟩ := comp_rise l a h
    refine ⟨List.pairwise_cons.2 ⟨i1, i2⟩, fun q hq => ?_⟩
    rcases List.mem_cons.1 hq with rfl | hq
    · exact ⟨q, by simp [compX], rfl, Int.le_refl _⟩
    · rcases i3 q hq with ⟨q1, q2⟩ | ⟨p, p1, p2, p3⟩
      · exact ⟨a, by simp [compX], q1.symm, q2⟩
      · exact ⟨p, List.mem_cons_of_mem _ p1, p2, p3⟩
/-- the upper hull of points: its corners. -/
structure IsHull (l c : List RPoint) : Prop where
  sub : ∀ p ∈ c, p ∈ l
  rise : RiseX c
  top : ∀ m ∈ c, ∀ p ∈ l, p.x = m.x → p.y ≤ m.y
  edge : ∀ (i : Nat) a b, c[i]? = some a → c[i + 1]? = some b → ∀ p ∈ l, turn a b p ≤ 0
  bend : ∀ (i : Nat) a b d, c[i]? = some a → c[i + 1]? = some b → c[i + 2]? = some d → turn a b d < 0
  first : ∀ a, c[0]? = some a → ∀ p ∈ l, a.x ≤ p.x
  last : ∀ a, c[c.length - 1]? = some a → ∀ p ∈ l, p.x ≤ a.x
  any : l ≠ [] → c ≠ []
theorem good_rev {l : List RPoint} : ∀ {st : List RPoint}, Good l st → RiseX st.reverse ∧ (∀ (i : Nat) a b, st.reverse[i]? = some a → st.reverse[i + 1]? = some b → ∀ p ∈ l, turn a b p ≤ 0) ∧
    (∀ (i : Nat) a b d, st.reverse[i]? = some a → st.reverse[i + 1]? = some b → st.reverse[i + 2]? = some d → turn a b d < 0) ∧ (∀ a, st.reverse[0]? = some a → ∀ p ∈ l, a.x ≤ p.x) ∧ (∀ m r, st = m :: r → ∀ p ∈ r, p.x < m.x)
  | [], _ => ⟨by simp [RiseX], by simp, by simp, by simp, by simp⟩
  | [q], g => ⟨by simp [RiseX], fun i a b h1 h2 => by simp at h2, fun i a b d h1 h2 h3 => by simp at h2, fun a h p hp => by simp at h; subst h; exact (g.2 p hp).1, fun m r e p hp => by cases e; simp at hp⟩
  | m :: s :: r, g => by
    obtain ⟨g1, g2, g3, g4, g5⟩ := g
    obtain ⟨i1, i2, i3, i4, i5⟩ := good_rev g5
    have hlt : ∀ p ∈ s :: r, p.x < m.x := fun p hp => by
      rcases List.mem_cons.1 hp with rfl | hp
      · exact g2
      · have := i5 s r rfl p hp; omega
    have hR : (m :: s :: r).reverse = (s :: r).reverse ++ [m] := by simp
    have hlen : (s :: r).reverse.length = r.length + 1 := by simp
    have hat : ∀ (i : Nat) a, ((s :: r).reverse ++ [m])[i]? = some a → (i < r.length + 1 ∧ (s :: r).reverse[i]? = some a) ∨ (i = r.length + 1 ∧ a = m) := fun i a h => by
      by_cases c : i < r.length + 1
      · rw [List.getElem?_append_left (by rw [hlen]; exact c)] at h; exact .inl ⟨c, h⟩
      · rw [List.getElem?_append_right (by rw [hlen]; omega), hlen] at h
        have hi : i - (r.length + 1) = 0 := by
          have := (List.getElem?_eq_some_iff.1 h).1
          simp at this; omega
        rw [hi] at h
        simp at h
        exact .inr ⟨by omega, h.symm⟩
    have hs : (s :: r).reverse[r.length]? = some s := by
      rw [List.getElem?_reverse (by simp)]; simp
    rw [hR]
    refine ⟨List.pairwise_append.2 ⟨i1, by simp, fun a ha b hb => by simp at hb; subst hb; exact hlt a (List.mem_reverse.1 ha)⟩, fun i a b h1 h2 p hp => ?_, fun i a b d h1 h2 h3 => ?_, fun a h p hp => ?_, fun m' r' e p hp => by cases e; exact hlt p hp⟩
    · rcases hat _ _ h2 with ⟨c2, h2⟩ | ⟨c2, rfl⟩
      · rcases hat _ _ h1 with ⟨_, h1⟩ | ⟨c1, _⟩
        · exact i2 i a b h1 h2 p hp
        · omega
      · obtain rfl : i = r.length := by omega
        rcases hat _ _ h1 with ⟨_, h1⟩ | ⟨c1, _⟩
        · rw [hs] at h1; cases h1; exact g3 p hp
        · omega
    · rcases hat _ _ h3 with ⟨c3, h3⟩ | ⟨c3, rfl⟩
      · rcases hat _ _ h1 with ⟨_, h1⟩ | ⟨c1, _⟩ <;> rcases hat _ _ h2 with ⟨_, h2⟩ | ⟨c2, _⟩
        · exact i3 i a b d h1 h2 h3
        all_goals omega
      · rcases hat _ _ h2 with ⟨_, h2⟩ | ⟨c2, _⟩
        · rcases hat _ _ h1 with ⟨c1, h1⟩ | ⟨c1, _⟩
          · have hi1 : i + 1 = r.length := by omega
            rw [hi1, hs] at h2; cases h2
            refine g4 a ?_
            have hb : s :: r = ((s :: r).reverse).reverse := by simp
            have : (s :: r)[1]? = some a := by
              rw [hb, List.getElem?_reverse (by simp; omega)]
              rw [show (s :: r).reverse.length - 1 - 1 = i by simp; omega]
              exact h1
            cases r with
            | nil => simp at this
            | cons t r => simpa using this
          · omega
        · omega
    · rcases hat _ _ h with ⟨_, h⟩ | ⟨c, _⟩
      · exact i4 a h p hp
      · omega
/-- the chain of the highest points is the hull. -/
theorem chain_hull {l es : List RPoint} (hp : es.Perm l) (ho : OrdX es) : IsHull l (chainP (compX es)).reverse := by
  obtain ⟨hr, hc⟩ := compX_rise ho
  obtain ⟨g, hl⟩ := chain_good (compX es) hr
  obtain ⟨r1, r2, r3, r4, r5⟩ := good_rev g
  have cov : ∀ q ∈ l, ∃ p ∈ compX es, p.x = q.x ∧ q.y ≤ p.y := fun q hq => hc q (hp.mem_iff.2 hq)
  refine ⟨fun p h => hp.mem_iff.1 (compX_sub p (g.mem p (List.mem_reverse.1 h))), r1, fun m hm p hpl e => ?_, fun i a b h1 h2 q hq => ?_, r3, fun a h q hq => ?_, fun a h q hq => ?_, fun hne e => ?_⟩
  · obtain ⟨z, z1, z2, z3⟩ := cov p hpl
    have := g.top m (List.mem_reverse.1 hm) z z1 (by omega)
    omega
  · obtain ⟨z, z1, z2, z3⟩ := cov q hq
    have h3 := r2 i a b h1 h2 z z1
    have hab : a.x < b.x := by
      have := List.pairwise_iff_getElem.1 r1 i (i + 1) (List.getElem?_eq_some_iff.1 h1).1 (List.getElem?_eq_some_iff.1 h2).1 (by omega)
      rw [(List.getElem?_eq_some_iff.1 h1).2, (List.getElem?_eq_some_iff.1 h2).2] at this
      exact this
    have e : turn a b q = turn a b z + (b.x - a.x) * (q.y - z.y) := by unfold turn; rw [z2]; grind
    have := Int.mul_nonpos_of_nonneg_of_nonpos (show 0 ≤ b.x - a.x by omega) (show q.y - z.y ≤ 0 by omega)
    omega
  · obtain ⟨z, z1, z2, z3⟩ := cov q hq
    have := r4 a h z z1
    omega
  · obtain ⟨z, z1, z2, z3⟩ := cov q hq
    cases hst : chainP (compX es) with
    | nil => rw [hst] at h; simp at h
    | cons m r =>
      rw [hst] at h
      simp at h
      subst h
      have := hl m r hst z z1
      omega
  · cases hst : chainP (compX es) with
    | nil =>
      rw [hst] at g
      have h0 : compX es = [] := g
      cases hl' : l with
      | nil => exact hne hl'
      | cons q l' =>
        obtain ⟨p, hpm, _⟩ := cov q (by rw [hl']; simp)
        rw [h0] at hpm; simp at hpm
    | cons m r => rw [hst] at e; simp at e
/-- is a point a corner: the highest of its X, above each line over it. -/
def CornerP (l : List RPoint) (p : RPoint) : Prop := (∀ q ∈ l, q.x = p.x → q.y ≤ p.y) ∧ ∀ a ∈ l, ∀ b ∈ l, a.x < p.x → p.x < b.x → 0 < turn a b p
theorem rise_at {c : List RPoint} (h : RiseX c) {i j : Nat} {a b : RPoint} (hi : c[i]? = some a) (hj : c[j]? = some b) (hij : i < j) : a.x < b.x := by
  have := List.pairwise_iff_getElem.1 h i j (List.getElem?_eq_some_iff.1 hi).1 (List.getElem?_eq_some_iff.1 hj).1 hij
  rw [(List.getElem?_eq_some_iff.1 hi).2, (List.getElem?_eq_some_iff.1 hj).2] at this
  exact this
/-- where between the corners an x is. -/
theorem between : ∀ {c : List RPoint} {x : Int}, (∀ a, c[0]? = some a → a.x ≤ x) → (∀ a, c[c.length - 1]? = some a → x ≤ a.x) → c ≠ [] →
    (∃ a, c[0]? = some a ∧ a.x = x) ∨ ∃ (i : Nat) (a b : RPoint), c[i]? = some a ∧ c[i + 1]? = some b ∧ a.x < x ∧ x ≤ b.x
  | [], _, _, _, h => absurd rfl h
  | [a], x, h1, h2, _ => by
    have := h1 a rfl
    have := h2 a rfl
    exact .inl ⟨a, rfl, by omega⟩
  | a :: b :: r, x, h1, h2, _ => by
    have ha := h1 a rfl
    by_cases e : a.x = x
    · exact .inl ⟨a, rfl, e⟩
    by_cases hb : x ≤ b.x
    · exact .inr ⟨0, a, b, rfl, rfl, by omega, hb⟩
    · rcases between (c := b :: r) (x := x) (fun z hz => by simp at hz; subst hz; omega) (fun z hz => h2 z (by simpa using hz)) (by simp) with ⟨z, hz, e2⟩ | ⟨i, z, y, hz, hy, h3, h4⟩
      · simp at hz; subst hz; omega
      · exact .inr ⟨i + 1, z, y, hz, hy, h3, h4⟩
theorem corner_turn {s p m a b : RPoint} (h1 : s.x < p.x) (h2 : p.x < m.x) (h3 : a.x < p.x) (h4 : p.x < b.x) (hb : turn s p m < 0) (ha : turn s p a ≤ 0) (hc : turn p m b ≤ 0) : 0 < turn a b p := by
  have e1 : turn s p m = crossI (p.x - s.x) (p.y - s.y) (m.x - p.x) (m.y - p.y) := by unfold turn crossI; grind
  have e2 : turn s p a = crossI (p.x - a.x) (p.y - a.y) (p.x - s.x) (p.y - s.y) := by unfold turn crossI; grind
  have e3 : turn p m b = crossI (m.x - p.x) (m.y - p.y) (b.x - p.x) (b.y - p.y) := by unfold turn crossI; grind
  have e4 : turn a b p = - crossI (p.x - a.x) (p.y - a.y) (b.x - p.x) (b.y - p.y) := by unfold turn crossI; grind
  rw [e1] at hb; rw [e2] at ha; rw [e3] at hc
  have g1 := slope_lt (show 0 < p.x - a.x by omega) (show 0 < p.x - s.x by omega) (show 0 < m.x - p.x by omega) ha hb
  have g2 := slope_lt' (show 0 < p.x - a.x by omega) (show 0 < m.x - p.x by omega) (show 0 < b.x - p.x by omega) g1 hc
  rw [e4]; omega
theorem idx_of {c : List RPoint} {p : RPoint} (h : p ∈ c) : ∃ i : Nat, c[i]? = some p := by
  obtain ⟨i, hi, e⟩ := List.mem_iff_getElem.1 h
  exact ⟨i, by rw [List.getElem?_eq_getElem hi, e]⟩
theorem hull_corner {l c : List RPoint} (h : IsHull l c) (p : RPoint) : p ∈ c ↔ p ∈ l ∧ CornerP l p := by
  constructor
  · intro hp
    refine ⟨h.sub p hp, fun q hq e => h.top p hp q hq e, fun a ha b hb h1 h2 => ?_⟩
    obtain ⟨i, hi⟩ := idx_of hp
    have hlt := (List.getElem?_eq_some_iff.1 hi).1
    have hi0 : i ≠ 0 := fun e => by subst e; have := h.first p hi a ha; omega
    have hil : i ≠ c.length - 1 := fun e => by rw [e] at hi; have := h.last p hi b hb; omega
    have hs : c[i - 1]? = some c[i - 1] := List.getElem?_eq_getElem (by omega)
    have hm : c[i + 1]? = some c[i + 1] := List.getElem?_eq_getElem (by omega)
    have hi' : c[i - 1 + 1]? = some p := by rw [show i - 1 + 1 = i by omega]; exact hi
    have hm' : c[i - 1 + 2]? = some c[i + 1] := by rw [show i - 1 + 2 = i + 1 by omega]; exact hm
    exact corner_turn (rise_at h.rise hs hi (by omega)) (rise_at h.rise hi hm (by omega)) h1 h2 (h.bend _ _ _ _ hs hi' hm') (h.edge _ _ _ hs hi' a ha) (h.edge _ _ _ hi hm b hb)
  · rintro ⟨hp, ht, hk⟩
    have hne : c ≠ [] := h.any (fun e => by rw [e] at hp; simp at hp)
    have same : ∀ z ∈ c, z.x = p.x → p ∈ c := fun z hz e => by
      have h1 := h.top z hz p hp e.symm
      have h2 := ht z (h.sub z hz) e
      have : z = p := by cases z; cases p; simp at e h1 h2 ⊢; exact ⟨e, by omega⟩
      rw [← this]; exact hz
    rcases between (c := c) (x := p.x) (fun a ha => h.first a ha p hp) (fun a ha => h.last a ha p hp) hne with ⟨a, ha, e⟩ | ⟨i, a, b, ha, hb, h1, h2⟩
    · exact same a (List.mem_of_getElem? ha) e
    · by_cases e : b.x = p.x
      · exact same b (List.mem_of_getElem? hb) e
      · have h3 := h.edge i a b ha hb p hp
        have h4 := hk a (h.sub a (List.mem_of_getElem? ha)) b (h.sub b (List.mem_of_getElem? hb)) h1 (by omega)
        omega
theorem rise_same : ∀ {c d : List RPoint}, RiseX c → RiseX d → (∀ p, p ∈ c ↔ p ∈ d) → c = d
  | [], [], _, _, _ => rfl
  | [], b :: d, _, _, h => by have := (h b).2 (by simp); simp at this
  | a :: c, [], _, _, h => by have := (h a).1 (by simp); simp at this
  | a :: c, b :: d, hc, hd, h => by
    obtain ⟨c1, c2⟩ := List.pairwise_cons.1 hc
    obtain ⟨d1, d2⟩ := List.pairwise_cons.1 hd
    have hab : a = b := by
      rcases List.mem_cons.1 ((h a).1 (by simp)) with e | e
      · exact e
      · rcases List.mem_cons.1 ((h b).2 (by simp)) with g | g
        · exact g.symm
        · have := c1 b g; have := d1 a e; omega
    subst hab
    rw [rise_same c2 d2 (fun p => ⟨fun hp => ?_, fun hp => ?_⟩)]
    · rcases List.mem_cons.1 ((h p).1 (List.mem_cons_of_mem _ hp)) with e | e
      · subst e; have := c1 p hp; omega
      · exact e
    · rcases List.mem_cons.1 ((h p).2 (List.mem_cons_of_mem _ hp)) with e | e
      · subst e; have := d1 p hp; omega
      · exact e
/-- points have one hull. -/
theorem hull_one {l c d : List RPoint} (h : IsHull l c) (g : IsHull l d) : c = d :=
  rise_same h.rise g.rise fun p => (hull_corner h p).trans (hull_corner g p).symm
/-- the hull of the corners is the corners. -/
theorem hull_self {l c : List RPoint} (h : IsHull l c) : IsHull c c :=
  ⟨fun _ h => h, h.rise, fun m hm p hp e => h.top m hm p (h.sub p hp) e, fun i a b h1 h2 p hp => h.edge i a b h1 h2 p (h.sub p hp), h.bend, fun a ha p hp => h.first a ha p (h.sub p hp), fun a ha p hp => h.last a ha p (h.sub p hp), fun h => h⟩
/-- n over w, rounded up. -/
def IsUp (n w k : Int) : Prop := (k - 1) * w < n ∧ n ≤ k * w
theorem up_one {n w j k : Int} (hw : 0 < w) (h : IsUp n w j) (g : IsUp n w k) : j = k := by
  have h1 : j - 1 < k := by
    by_cases c : j - 1 < k
    · exact c
    · have := Int.mul_le_mul_of_nonneg_right (show k ≤ j - 1 by omega) (show 0 ≤ w by omega)
      have := h.1; have := g.2; omega
  have h2 : k - 1 < j := by
    by_cases c : k - 1 < j
    · exact c
    · have := Int.mul_le_mul_of_nonneg_right (show j ≤ k - 1 by omega) (show 0 ≤ w by omega)
      have := g.1; have := h.2; omega
  omega
/-- how high a hull is at x. -/
def OverR (c : List RPoint) (x v : Int) : Prop :=
  (c.length = 1 ∧ ∃ a, c[0]? = some a ∧ a.x = x ∧ v = a.y) ∨ ∃ (i : Nat) (a b : RPoint), c[i]? = some a ∧ c[i + 1]? = some b ∧ (i = 0 ∨ a.x < x) ∧ a.x ≤ x ∧ x ≤ b.x ∧ IsUp ((b.y - a.y) * (x - a.x)) (b.x - a.x) (v - a.y)
theorem over_one {c : List RPoint} {x u v : Int} (hr : RiseX c) (h : OverR c x u) (g : OverR c x v) : u = v := by
  rcases h with ⟨h1, a, h2, _, rfl⟩ | ⟨i, a, b, h1, h2, h3, h4, h5, h6⟩ <;> rcases g with ⟨g1, a', g2, _, rfl⟩ | ⟨j, a', b', g1, g2, g3, g4, g5, g6⟩
  · rw [h2] at g2; cases g2; rfl
  · have := (List.getElem?_eq_some_iff.1 g2).1; omega
  · have := (List.getElem?_eq_some_iff.1 h2).1; omega
  · have hij : i = j := by
      rcases Nat.lt_trichotomy i j with q | q | q
      · exfalso
        have hb : b.x ≤ a'.x := by
          rcases Nat.lt_or_ge (i + 1) j with q2 | q2
          · have := rise_at hr h2 g1 q2; omega
          · obtain rfl : i + 1 = j := by omega
            rw [h2] at g1; cases g1; exact Int.le_refl _
        rcases g3 with g3 | g3 <;> omega
      · exact q
      · exfalso
        have hb : b'.x ≤ a.x := by
          rcases Nat.lt_or_ge (j + 1) i with q2 | q2
          · have := rise_at hr g2 h1 q2; omega
          · obtain rfl : j + 1 = i := by omega
            rw [g2] at h1; cases h1; exact Int.le_refl _
        rcases h3 with h3 | h3 <;> omega
    subst hij
    rw [h1] at g1; cases g1
    rw [h2] at g2; cases g2
    have := up_one (show 0 < b.x - a.x by have := rise_at hr h1 h2 (by omega); omega) h6 g6
    omega
/-- a point is not above the hull. -/
theorem over_point {l c : List RPoint} {x v : Int} (h : IsHull l c) (ho : OverR c x v) {q : RPoint} (hq : q ∈ l) (e : q.x = x) : q.y ≤ v := by
  rcases ho with ⟨_, a, h2, h3, rfl⟩ | ⟨i, a, b, h1, h2, _, h4, h5, h6⟩
  · exact h.top a (List.mem_of_getElem? h2) q hq (by omega)
  · have hw := rise_at h.rise h1 h2 (by omega)
    have h7 := h.edge i a b h1 h2 q hq
    have h8 := h6.2
    unfold turn at h7
    rw [e] at h7
    by_cases c : q.y ≤ v
    · exact c
    · have e1 : (b.x - a.x) * (q.y - a.y) = (v - a.y) * (b.x - a.x) + (b.x - a.x) * (q.y - v) := by grind
      have := Int.mul_pos (show 0 < b.x - a.x by omega) (show 0 < q.y - v by omega)
      omega
theorem seg_id (a b s m : RPoint) (x v : Int) : (b.x - a.x) * ((m.x - s.x) * (v - s.y) - (m.y - s.y) * (x - s.x)) = (b.x - x) * turn s m a + (x - a.x) * turn s m b + (m.x - s.x) * ((v - a.y) * (b.x - a.x) - (b.y - a.y) * (x - a.x)) := by
  unfold turn; grind
/-- no line between two points is above the hull. -/
theorem over_line {l c : List RPoint} {x v : Int} (h : IsHull l c) (ho : OverR c x v) {a b : RPoint} (ha : a ∈ l) (hb : b ∈ l) (h1 : a.x ≤ x) (h2 : x ≤ b.x) (hab : a.x < b.x) : (b.y - a.y) * (x - a.x) ≤ (v - a.y) * (b.x - a.x) := by
  rcases ho with ⟨hl, z, g2, _, _⟩ | ⟨i, s, m, g1, g2, _, g4, g5, g6⟩
  · have q1 := h.first z g2 a ha
    have q2 := h.last z (by rw [hl]; exact g2) b hb
    omega
  · have hw := rise_at h.rise g1 g2 (by omega)
    have t1 := h.edge i s m g1 g2 a ha
    have t2 := h.edge i s m g1 g2 b hb
    have hid := seg_id a b s m x v
    have n1 := Int.mul_nonpos_of_nonneg_of_nonpos (show 0 ≤ b.x - x by omega) t1
    have n2 := Int.mul_nonpos_of_nonneg_of_nonpos (show 0 ≤ x - a.x by omega) t2
    have h8 := g6.2
    have n3 : 0 ≤ (b.x - a.x) * ((m.x - s.x) * (v - s.y) - (m.y - s.y) * (x - s.x)) := Int.mul_nonneg (by omega) (by
      have : (m.x - s.x) * (v - s.y) = (v - s.y) * (m.x - s.x) := Int.mul_comm _ _
      omega)
    by_cases q : (b.y - a.y) * (x - a.x) ≤ (v - a.y) * (b.x - a.x)
    · exact q
    · have := Int.mul_neg_of_pos_of_neg (show 0 < m.x - s.x by omega) (show (v - a.y) * (b.x - a.x) - (b.y - a.y) * (x - a.x) < 0 by omega)
      omega
/-- with more points nothing is lower above. -/
theorem over_more {l m c d : List RPoint} {x u v : Int} (h : IsHull l c) (g : IsHull m d) (hs : ∀ p ∈ l, p ∈ m) (ho : OverR c x u) (gv : OverR d x v) : u ≤ v := by
  rcases ho with ⟨_, a, h2, h3, rfl⟩ | ⟨i, a, b, h1, h2, _, h4, h5, h6⟩
  · exact over_point g gv (hs a (h.sub a (List.mem_of_getElem? h2))) h3
  · have hw := rise_at h.rise h1 h2 (by omega)
    have h7 := over_line g gv (hs a (h.sub a (List.mem_of_getElem? h1))) (hs b (h.sub b (List.mem_of_getElem? h2))) h4 h5 hw
    have h8 := h6.1
    by_cases c : u ≤ v
    · exact c
    · have := Int.mul_le_mul_of_nonneg_right (show v - a.y ≤ u - a.y - 1 by omega) (show 0 ≤ b.x - a.x by omega)
      omega
/-- points upside down. -/
def flipP (p : RPoint) : RPoint := ⟨p.x, -p.y⟩
theorem flip_flip (p : RPoint) : flipP (flipP p) = p := by cases p; simp [flipP]
/-- what is under is not above what is over. -/
theorem under_over {l c d : List RPoint} {x u v : Int} (h : IsHull l c) (g : IsHull (l.map flipP) d) (ho : OverR c x u) (gv : OverR d x v) : -v ≤ u := by
  have mem : ∀ p ∈ d, flipP p ∈ l := fun p hp => by
    obtain ⟨q, hq, e⟩ := List.mem_map.1 (g.sub p hp)
    rw [← e, flip_flip]; exact hq
  rcases gv with ⟨_, a, h2, h3, rfl⟩ | ⟨i, a, b, h1, h2, _, h4, h5, h6⟩
  · exact over_point h ho (mem a (List.mem_of_getElem? h2)) h3
  · have hw := rise_at g.rise h1 h2 (by omega)
    have h7 := over_line h ho (mem a (List.mem_of_getElem? h1)) (mem b (List.mem_of_getElem? h2)) h4 h5 hw
    have h8 := h6.2
    simp only [flipP] at h7
    have e1 : (-b.y - -a.y) * (x - a.x) = -((b.y - a.y) * (x - a.x)) := by grind
    rw [e1] at h7
    have e2 : (u - -a.y) * (b.x - a.x) + (v - a.y) * (b.x - a.x) = (u + v) * (b.x - a.x) := by grind
    by_cases q : -v ≤ u
    · exact q
    · have := Int.mul_neg_of_neg_of_pos (show u + v < 0 by omega) (show 0 < b.x - a.x by omega)
      omega
end Go.Proofs.YtdjkhagdckhijaaDoor
