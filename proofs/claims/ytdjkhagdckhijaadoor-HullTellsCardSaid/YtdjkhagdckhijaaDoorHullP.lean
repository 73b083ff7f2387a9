/- The upper hull of points: the chain, and what holds of it. No program stands here. -/
import Derived.Test.YtdjkhagdckhijaaDoorRec
namespace Go.Proofs.YtdjkhagdckhijaaDoor
set_option linter.unusedVariables false
set_option linter.unusedSimpArgs false
def turn (a b c : RPoint) : Int := (b.x - a.x) * (c.y - a.y) - (b.y - a.y) * (c.x - a.x)
def crossI (a b c d : Int) : Int := a * d - b * c
theorem turn_cross (a b c : RPoint) : turn a b c = crossI (b.x - a.x) (b.y - a.y) (c.x - a.x) (c.y - a.y) := rfl
/-- slopes that fall, twice. -/
theorem slope_le {a b c d e f : Int} (h1 : 0 < a) (h2 : 0 < c) (h3 : 0 < e) (p : crossI a b c d ≤ 0) (q : crossI c d e f ≤ 0) : crossI a b e f ≤ 0 := by
  have id : c * crossI a b e f = a * crossI c d e f + e * crossI a b c d := by unfold crossI; grind
  have m1 : a * crossI c d e f ≤ 0 := Int.mul_nonpos_of_nonneg_of_nonpos (by omega) q
  have m2 : e * crossI a b c d ≤ 0 := Int.mul_nonpos_of_nonneg_of_nonpos (by omega) p
  by_cases g : crossI a b e f ≤ 0
  · exact g
  · have := Int.mul_pos h2 (show 0 < crossI a b e f by omega)
    omega
theorem slope_lt {a b c d e f : Int} (h1 : 0 < a) (h2 : 0 < c) (h3 : 0 < e) (p : crossI a b c d ≤ 0) (q : crossI c d e f < 0) : crossI a b e f < 0 := by
  have id : c * crossI a b e f = a * crossI c d e f + e * crossI a b c d := by unfold crossI; grind
  have m1 : a * crossI c d e f < 0 := Int.mul_neg_of_pos_of_neg h1 q
  have m2 : e * crossI a b c d ≤ 0 := Int.mul_nonpos_of_nonneg_of_nonpos (by omega) p
  by_cases g : crossI a b e f < 0
  · exact g
  · have := Int.mul_nonneg (show 0 ≤ c by omega) (show 0 ≤ crossI a b e f by omega)
    omega
theorem slope_lt' {a b c d e f : Int} (h1 : 0 < a) (h2 : 0 < c) (h3 : 0 < e) (p : crossI a b c d < 0) (q : crossI c d e f ≤ 0) : crossI a b e f < 0 := by
  have id : c * crossI a b e f = a * crossI c d e f + e * crossI a b c d := by unfold crossI; grind
  have m1 : a * crossI c d e f ≤ 0 := Int.mul_nonpos_of_nonneg_of_nonpos (by omega) q
  have m2 : e * crossI a b c d < 0 := Int.mul_neg_of_pos_of_neg h3 p
  by_cases g : crossI a b e f < 0
  · exact g
  · have := Int.mul_nonneg (show 0 ≤ c by omega) (show 0 ≤ crossI a b e f by omega)
    omega
/-- from the last to the one ahead: what goes is not above the line. -/
def dropP (p : RPoint) : List RPoint → List RPoint
  | m :: s :: r => if 0 ≤ turn s m p then dropP p (s :: r) else m :: s :: r
  | l => l
def pushP (st : List RPoint) (p : RPoint) : List RPoint := p :: dropP p st
/-- the chain of points that rise, the last one first. -/
def chainP (l : List RPoint) : List RPoint := l.foldl pushP []
/-- a chain, the last one first, over the points that were seen. -/
def Good (l : List RPoint) : List RPoint → Prop
  | [] => l = []
  | [q] => q ∈ l ∧ ∀ p ∈ l, q.x ≤ p.x ∧ (p.x = q.x → p.y ≤ q.y)
  | m :: s :: r => m ∈ l ∧ s.x < m.x ∧ (∀ p ∈ l, turn s m p ≤ 0) ∧ (∀ t, r.head? = some t → turn t s m < 0) ∧ Good l (s :: r)
theorem Good.mem {l : List RPoint} : ∀ {st : List RPoint}, Good l st → ∀ p ∈ st, p ∈ l
  | [], _, p, h => by simp at h
  | [q], g, p, h => by simp at h; subst h; exact g.1
  | m :: s :: r, g, p, h => by
    rcases List.mem_cons.1 h with rfl | h
    · exact g.1
    · exact g.2.2.2.2.mem p h
/-- of one X, the chain has the highest. -/
theorem Good.top {l : List RPoint} : ∀ {st : List RPoint}, Good l st → ∀ m ∈ st, ∀ p ∈ l, p.x = m.x → p.y ≤ m.y
  | [], _, m, h, _, _, _ => by simp at h
  | [q], g, m, h, p, hp, e => by simp at h; subst h; exact (g.2 p hp).2 e
  | m :: s :: r, g, m', h, p, hp, e => by
    rcases List.mem_cons.1 h with rfl | h
    · have h1 := g.2.2.1 p hp
      have h2 := g.2.1
      rw [turn] at h1
      have e2 : p.x - s.x = m'.x - s.x := by rw [e]
      rw [e2] at h1
      have e3 : (m'.x - s.x) * (p.y - s.y) - (m'.y - s.y) * (m'.x - s.x) = (m'.x - s.x) * (p.y - m'.y) := by grind
      rw [e3] at h1
      by_cases q : p.y ≤ m'.y
      · exact q
      · have := Int.mul_pos (show 0 < m'.x - s.x by omega) (show 0 < p.y - m'.y by omega)
        omega
    · exact g.2.2.2.2.top m' h p hp e
theorem right_of {s m p q : RPoint} (h1 : s.x < m.x) (h2 : m.x < p.x) (h3 : s.x ≤ q.x) (ht : 0 ≤ turn s m p) (hq : turn s m q ≤ 0) : turn s p q ≤ 0 := by
  rw [turn_cross] at *
  by_cases e : q.x = s.x
  · unfold crossI at *
    rw [e] at hq ⊢
    have e1 : (m.x - s.x) * (q.y - s.y) - (m.y - s.y) * (s.x - s.x) = (m.x - s.x) * (q.y - s.y) := by grind
    have e2 : (p.x - s.x) * (q.y - s.y) - (p.y - s.y) * (s.x - s.x) = (p.x - s.x) * (q.y - s.y) := by grind
    rw [e1] at hq
    rw [e2]
    have hy : q.y - s.y ≤ 0 := by
      by_cases g : q.y - s.y ≤ 0
      · exact g
      · have := Int.mul_pos (show 0 < m.x - s.x by omega) (show 0 < q.y - s.y by omega)
        omega
    exact Int.mul_nonpos_of_nonneg_of_nonpos (by omega) hy
  · refine slope_le (c := m.x - s.x) (d := m.y - s.y) (by omega) (by omega) (by omega) ?_ hq
    have : crossI (p.x - s.x) (p.y - s.y) (m.x - s.x) (m.y - s.y) = - crossI (m.x - s.x) (m.y - s.y) (p.x - s.x) (p.y - s.y) := by unfold crossI; grind
    omega
/-- what stands when the higher ones have gone. -/
theorem drop_good {l : List RPoint} {p : RPoint} : ∀ {r : List RPoint} {m : RPoint}, Good l (m :: r) → m.x < p.x → (∀ q ∈ l, m.x ≤ q.x → turn m p q ≤ 0) →
    ∃ m' r', dropP p (m :: r) = m' :: r' ∧ Good l (m' :: r') ∧ m'.x < p.x ∧ (∀ q ∈ l, m'.x ≤ q.x → turn m' p q ≤ 0) ∧ (∀ s, r'.head? = some s → turn s m' p < 0) ∧ (m' :: r') <:+ (m :: r)
  | [], m, g, h1, h2 => ⟨m, [], rfl, g, h1, h2, by simp, List.suffix_refl _⟩
  | s :: r, m, g, h1, h2 => by
    by_cases c : 0 ≤ turn s m p
    · obtain ⟨g1, g2, g3, g4, g5⟩ := g
      obtain ⟨m', r', e1, e2, e3, e4, e5, e6⟩ := drop_good (p := p) g5 (by omega) (fun q hq hx => right_of g2 h1 hx c (g3 q hq))
      refine ⟨m', r', ?_, e2, e3, e4, e5, e6.trans (List.suffix_cons _ _)⟩
      rw [dropP, if_pos c]; exact e1
    · refine ⟨m, s :: r, by rw [dropP, if_neg c], g, h1, h2, fun t ht => ?_, List.suffix_refl _⟩
      simp at ht; subst ht; omega
theorem left_of {s m p q : RPoint} (h1 : s.x < m.x) (h2 : m.x < p.x) (h3 : q.x < m.x) (ht : turn s m p < 0) (hq : turn s m q ≤ 0) : turn m p q ≤ 0 := by
  have e1 : turn m p q = crossI (m.x - q.x) (m.y - q.y) (p.x - m.x) (p.y - m.y) := by unfold turn crossI; grind
  rw [e1]
  refine slope_le (c := m.x - s.x) (d := m.y - s.y) (by omega) (by omega) (by omega) ?_ ?_
  · have : crossI (m.x - q.x) (m.y - q.y) (m.x - s.x) (m.y - s.y) = turn s m q := by unfold turn crossI; grind
    omega
  · have : crossI (m.x - s.x) (m.y - s.y) (p.x - m.x) (p.y - m.y) = turn s m p := by unfold turn crossI; grind
    omega
theorem beyond {t s m p : RPoint} (h1 : t.x < s.x) (h2 : s.x < m.x) (h3 : m.x < p.x) (ht : turn t s m < 0) (hp : turn s m p ≤ 0) : turn t s p ≤ 0 := by
  have e1 : turn t s m = crossI (s.x - t.x) (s.y - t.y) (m.x - s.x) (m.y - s.y) := by unfold turn crossI; grind
  have e2 : turn s m p = crossI (m.x - s.x) (m.y - s.y) (p.x - m.x) (p.y - m.y) := by unfold turn crossI; grind
  have e3 : turn t s p = crossI (s.x - t.x) (s.y - t.y) (m.x - s.x) (m.y - s.y) + crossI (s.x - t.x) (s.y - t.y) (p.x - m.x) (p.y - m.y) := by unfold turn crossI; grind
  rw [e1] at ht
  rw [e2] at hp
  have := slope_le (show 0 < s.x - t.x by omega) (show 0 < m.x - s.x by omega) (show 0 < p.x - m.x by omega) (Int.le_of_lt ht) hp
  omega
/-- a point behind all is under each line of the chain. -/
theorem Good.add {l : List RPoint} {p : RPoint} : ∀ {st : List RPoint}, Good l st → st ≠ [] → (∀ q ∈ st, q.x < p.x) → (∀ m s r, st = m :: s :: r → turn s m p ≤ 0) → Good (l ++ [p]) st
  | [], _, h, _, _ => absurd rfl h
  | [q], g, _, h1, _ => ⟨List.mem_append_left _ g.1, fun z hz => by
    rcases List.mem_append.1 hz with h | h
    · exact g.2 z h
    · simp at h; subst h
      have := h1 q (by simp)
      exact ⟨by omega, fun e => by omega⟩⟩
  | m :: s :: r, g, _, h1, h2 => by
    obtain ⟨g1, g2, g3, g4, g5⟩ := g
    have hm := h2 m s r rfl
    refine ⟨List.mem_append_left _ g1, g2, fun z hz => ?_, g4, g5.add (by simp) (fun q hq => h1 q (List.mem_cons_of_mem _ hq)) (fun m' s' r' e => ?_)⟩
    · rcases List.mem_append.1 hz with h | h
      · exact g3 z h
      · simp at h; subst h; exact hm
    · cases e
      exact beyond (g5.2.1) g2 (h1 m (by simp)) (g4 s' rfl) hm
theorem push_good {l st : List RPoint} {p : RPoint} (g : Good l st) (h : ∀ q ∈ l, q.x < p.x) (hlast : ∀ m r, st = m :: r → ∀ q ∈ l, q.x ≤ m.x) : Good (l ++ [p]) (pushP st p) := by
  cases st with
  | nil =>
    have hl : l = [] := g
    subst hl
    exact ⟨by simp, fun z hz => by simp at hz; subst hz; exact ⟨by omega, fun _ => by omega⟩⟩
  | cons m r =>
    have hm := g.mem m (by simp)
    obtain ⟨m', r', e1, e2, e3, e4, e5, e6⟩ := drop_good (p := p) g (h m hm) (fun q hq hx => by
      have h1 := hlast m r rfl q hq
      have e : q.x = m.x := by omega
      have h2 := g.top m (by simp) q hq e
      unfold turn
      rw [e, show (p.x - m.x) * (q.y - m.y) - (p.y - m.y) * (m.x - m.x) = (p.x - m.x) * (q.y - m.y) by grind]
      exact Int.mul_nonpos_of_nonneg_of_nonpos (by have := h m hm; omega) (by omega))
    unfold pushP
    rw [e1]
    have hall : ∀ q ∈ l, turn m' p q ≤ 0 := fun q hq => by
      by_cases c : m'.x ≤ q.x
      · exact e4 q hq c
      · cases r' with
        | nil => have := (e2.2 q hq).1; omega
        | cons s r'' => exact left_of e2.2.1 e3 (by omega) (e5 s rfl) (e2.2.2.1 q hq)
    refine ⟨by simp, e3, fun q hq => ?_, e5, ?_⟩
    · rcases List.mem_append.1 hq with hq | hq
      · exact hall q hq
      · simp at hq; subst hq
        unfold turn; grind
    · refine e2.add (by simp) (fun q hq => h q (e2.mem q hq)) (fun a b c e => ?_)
      cases e
      have := e5 b rfl
      omega
/-- points that rise. -/
def RiseX (l : List RPoint) : Prop := l.Pairwise fun a b => a.x < b.x
theorem push_head (st : List RPoint) (p : RPoint) : ∃ r, pushP st p = p :: r := ⟨_, rfl⟩
theorem chain_good (l : List RPoint) (h : RiseX l) : Good l (chainP l) ∧ ∀ m r, chainP l = m :: r → ∀ q ∈ l, q.x ≤ m.x := by
  suffices H : ∀ (b a : List RPoint) (st : List RPoint), RiseX (a ++ b) → Good a st → (∀ m r, st = m :: r → ∀ q ∈ a, q.x ≤ m.x) → Good (a ++ b) (b.foldl pushP st) ∧ ∀ m r, b.foldl pushP st = m :: r → ∀ q ∈ a ++ b, q.x ≤ m.x by
    have := H l [] [] h rfl (by simp)
    simpa [chainP] using this
  intro b
  induction b with
  | nil => intro a st _ g hl; simpa using ⟨g, hl⟩
  | cons p b ih =>
    intro a st hr g hl
    have h1 : ∀ q ∈ a, q.x < p.x := fun q hq => (List.pairwise_append.1 hr).2.2 q hq p (by simp)
    have := ih (a ++ [p]) (pushP st p) (by simpa using hr) (push_good g h1 hl) (fun m r e q hq => by
      cases e
      rcases List.mem_append.1 hq with hq | hq
      · have := h1 q hq; omega
      · simp at hq; subst hq; omega)
    simpa using this
end Go.Proofs.YtdjkhagdckhijaaDoor
