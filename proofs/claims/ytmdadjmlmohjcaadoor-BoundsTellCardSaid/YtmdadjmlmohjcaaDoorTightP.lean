/- The document's way to reckon all bounds: along all edges again and again. No program stands here. -/
import Derived.Test.YtmdadjmlmohjcaaDoorGraphP
namespace Go.Proofs.YtmdadjmlmohjcaaDoor
open Go.RowKit
set_option linter.unusedVariables false
set_option linter.unusedSimpArgs false
/-- a row of bounds from node i: R whole rounds told, k edges of the next one; its ways have at most S arcs. -/
structure RowT (l : List REdge) (i R k S : Nat) (d : Nat → Int) (h : Nat → Bool) : Prop where
  snd : ∀ b, h b = true → ∃ r, r ≤ S ∧ Way (Arc l) i b r (d b)
  cpl : ∀ r b c, r ≤ R → Way (Arc l) i b r c → h b = true ∧ d b ≤ c
  nxt : ∀ r x b c w, r ≤ R → Way (Arc l) i x r c → Arc (l.take k) x b w → h b = true ∧ d b ≤ c + w
theorem RowT.init (l : List REdge) (i : Nat) (d : Nat → Int) (h : Nat → Bool) (hd : d i = 0) (hh : ∀ b, h b = true ↔ b = i) : RowT l i 0 0 0 d h :=
  ⟨fun b hb => by
    obtain rfl := (hh b).1 hb
    exact ⟨0, Nat.le_refl _, by rw [hd]; exact .start⟩, fun r b c hr hw => by
    obtain rfl : r = 0 := by omega
    cases hw
    exact ⟨(hh _).2 rfl, by omega⟩, fun r x b c w hr hw ha => by
    obtain ⟨e, he, _⟩ := ha
    simp at he⟩
def up1 (d : Nat → Int) (b : Nat) (v : Int) : Nat → Int := fun j => if j = b then v else d j
def upB (h : Nat → Bool) (b : Nat) : Nat → Bool := fun j => if j = b then true else h j
/-- one arc tried. -/
def tryD (d : Nat → Int) (h : Nat → Bool) (a b : Nat) (w : Int) : Nat → Int := if h a = true ∧ (h b = false ∨ d a + w < d b) then up1 d b (d a + w) else d
def tryH (d : Nat → Int) (h : Nat → Bool) (a b : Nat) (w : Int) : Nat → Bool := if h a = true ∧ (h b = false ∨ d a + w < d b) then upB h b else h
theorem try_le (d : Nat → Int) (h : Nat → Bool) (a b : Nat) (w : Int) (j : Nat) (hj : h j = true) : tryH d h a b w j = true ∧ tryD d h a b w j ≤ d j := by
  unfold tryH tryD
  split
  · rename_i c
    unfold upB up1
    by_cases e : j = b
    · subst e
      simp only [if_true]
      rcases c.2 with q | q
      · rw [q] at hj; cases hj
      · exact ⟨trivial, by omega⟩
    · simp only [if_neg e]; exact ⟨hj, Int.le_refl _⟩
  · exact ⟨hj, Int.le_refl _⟩
theorem try_at (d : Nat → Int) (h : Nat → Bool) (a b : Nat) (w : Int) (ha : h a = true) (hab : a ≠ b) : tryH d h a b w b = true ∧ tryD d h a b w b ≤ d a + w := by
  unfold tryH tryD
  split
  · unfold upB up1
    simp only [if_true]
    exact ⟨trivial, Int.le_refl _⟩
  · rename_i c
    cases hb : h b
    · exact absurd ⟨ha, .inl hb⟩ c
    · refine ⟨rfl, ?_⟩
      rcases Int.lt_or_le (d a + w) (d b) with q | q
      · exact absurd ⟨ha, .inr q⟩ c
      · exact q
theorem try_snd {l : List REdge} {i S : Nat} {d : Nat → Int} {h : Nat → Bool} {a b : Nat} {w : Int} (hw : Arc l a b w) (g : ∀ b, h b = true → ∃ r, r ≤ S ∧ Way (Arc l) i b r (d b)) :
    ∀ j, tryH d h a b w j = true → ∃ r, r ≤ S + 1 ∧ Way (Arc l) i j r (tryD d h a b w j) := by
  intro j hj
  unfold tryH at hj
  unfold tryD
  split at hj
  · rename_i c
    rw [if_pos c]
    unfold upB at hj
    unfold up1
    by_cases e : j = b
    · subst e
      rw [if_pos rfl]
      obtain ⟨r, h1, h2⟩ := g a c.1
      exact ⟨r + 1, by omega, .go h2 hw⟩
    · rw [if_neg e] at hj ⊢
      obtain ⟨r, h1, h2⟩ := g j hj
      exact ⟨r, by omega, h2⟩
  · rename_i c
    rw [if_neg c]
    obtain ⟨r, h1, h2⟩ := g j hj
    exact ⟨r, by omega, h2⟩
/-- one edge, both ways. -/
def edD (d : Nat → Int) (h : Nat → Bool) (a b : Nat) (lo hi : Int) : Nat → Int := tryD (tryD d h a b hi) (tryH d h a b hi) b a (-lo)
def edH (d : Nat → Int) (h : Nat → Bool) (a b : Nat) (lo hi : Int) : Nat → Bool := tryH (tryD d h a b hi) (tryH d h a b hi) b a (-lo)
theorem RowT.step {n : Nat} {l : List REdge} {i R k S : Nat} {d : Nat → Int} {h : Nat → Bool} (hl : EdgesOk n l) (g : RowT l i R k S d h) {e : REdge} (he : l[k]? = some e) {a b : Nat} (ha : e.a = a) (hb : e.b = b) :
    RowT l i R (k + 1) (S + 2) (edD d h a b e.lo e.hi) (edH d h a b e.lo e.hi) := by
  have hm := List.mem_of_getElem? he
  have hk := hl e hm
  unfold edgeB at hk
  have hab : a ≠ b := by omega
  have ab : Arc l a b e.hi := ⟨e, hm, .inl ⟨by omega, by omega, rfl⟩⟩
  have ba : Arc l b a (-e.lo) := ⟨e, hm, .inr ⟨by omega, by omega, rfl⟩⟩
  have mo : ∀ j, h j = true → edH d h a b e.lo e.hi j = true ∧ edD d h a b e.lo e.hi j ≤ d j := fun j hj => by
    have h1 := try_le d h a b e.hi j hj
    have h2 := try_le (tryD d h a b e.hi) (tryH d h a b e.hi) b a (-e.lo) j h1.1
    exact ⟨h2.1, Int.le_trans h2.2 h1.2⟩
  refine ⟨fun j hj => ?_, fun r j c hr hw => ?_, fun r x j c w hr hw hx => ?_⟩
  · obtain ⟨r, h1, h2⟩ := try_snd ba (try_snd ab g.snd) j hj
    exact ⟨r, by omega, h2⟩
  · have h1 := g.cpl r j c hr hw
    have h2 := mo j h1.1
    exact ⟨h2.1, by omega⟩
  · rcases take_arc he hx with q | ⟨q1, q2, q3⟩ | ⟨q1, q2, q3⟩
    · have h1 := g.nxt r x j c w hr hw q
      have h2 := mo j h1.1
      exact ⟨h2.1, by omega⟩
    · obtain rfl : a = x := by omega
      obtain rfl : b = j := by omega
      have h1 := g.cpl r a c hr hw
      have h2 := try_at d h a b e.hi h1.1 hab
      have h3 := try_le (tryD d h a b e.hi) (tryH d h a b e.hi) b a (-e.lo) b h2.1
      exact ⟨h3.1, by unfold edD; omega⟩
    · obtain rfl : b = x := by omega
      obtain rfl : a = j := by omega
      have h1 := g.cpl r b c hr hw
      have h2 := try_le d h a b e.hi b h1.1
      have h3 := try_at (tryD d h a b e.hi) (tryH d h a b e.hi) b a (-e.lo) h2.1 (fun q => hab q.symm)
      exact ⟨h3.1, by unfold edD; omega⟩
theorem RowT.next {l : List REdge} {i R S : Nat} {d : Nat → Int} {h : Nat → Bool} (g : RowT l i R l.length S d h) : RowT l i (R + 1) 0 S d h :=
  ⟨g.snd, fun r b c hr hw => by
    by_cases e : r ≤ R
    · exact g.cpl r b c e hw
    · obtain rfl : r = R + 1 := by omega
      cases hw with
      | go hw' ha => exact g.nxt R _ b _ _ (Nat.le_refl _) hw' (by rw [List.take_length]; exact ha), fun r x b c w hr hw ha => by
    obtain ⟨e, he, _⟩ := ha
    simp at he⟩
theorem way_bd {n : Nat} {l : List REdge} (hl : EdgesOk n l) {a b r : Nat} {c : Int} (h : Way (Arc l) a b r c) : -(1000000000000 * (r : Int)) ≤ c ∧ c ≤ 1000000000000 * (r : Int) := by
  induction h with
  | start => simp
  | @go x y r c w _ hw ih =>
    have := hw.bd hl
    have e : ((r + 1 : Nat) : Int) = (r : Int) + 1 := by omega
    rw [e]
    omega
theorem RowT.bd {n : Nat} {l : List REdge} {i R k S : Nat} {d : Nat → Int} {h : Nat → Bool} (hl : EdgesOk n l) (g : RowT l i R k S d h) (hS : S ≤ 2000) {b : Nat} (hb : h b = true) : -2000000000000000 ≤ d b ∧ d b ≤ 2000000000000000 := by
  obtain ⟨r, h1, h2⟩ := g.snd b hb
  have := way_bd hl h2
  omega
theorem RowT.mid {n : Nat} {l : List REdge} {i R k S : Nat} {d : Nat → Int} {h : Nat → Bool} (hl : EdgesOk n l) (g : RowT l i R k S d h) (hS : S + 1 ≤ 2000) {a b : Nat} {w : Int} (hw : Arc l a b w) {j : Nat} (hj : tryH d h a b w j = true) :
    -2000000000000000 ≤ tryD d h a b w j ∧ tryD d h a b w j ≤ 2000000000000000 := by
  obtain ⟨r, h1, h2⟩ := try_snd hw g.snd j hj
  have := way_bd hl h2
  omega
/-- the table: rows below i have a round more. -/
def TabT (n : Nat) (l : List REdge) (R i S : Nat) (D : Nat → Nat → Int) (H : Nat → Nat → Bool) : Prop :=
  ∀ a, a < n → RowT l a (if a < i then R + 1 else R) 0 (if a < i then S + 2 * l.length else S) (D a) (H a)
theorem TabT.fine {n : Nat} {l : List REdge} {R S : Nat} {D : Nat → Nat → Int} {H : Nat → Nat → Bool} (hl : EdgesOk n l) (h : TabT n l R 0 S D H) (hR : n ≤ R) :
    ((∃ a, a < n ∧ D a a < 0) → Sunk (Arc l) n) ∧ ((∀ a, a < n → 0 ≤ D a a) → ¬ Sunk (Arc l) n ∧ Tells (Arc l) n D H) := by
  have hr : ∀ a, a < n → RowT l a R 0 S (D a) (H a) := fun a ha => by
    have := h a ha
    simpa using this
  have hs : ∀ a, a < n → H a a = true ∧ D a a ≤ 0 := fun a ha => (hr a ha).cpl 0 a 0 (Nat.zero_le _) .start
  refine ⟨fun ⟨a, ha, hn⟩ => ?_, fun hd => ?_⟩
  · obtain ⟨r, _, hw⟩ := (hr a ha).snd a (hs a ha).1
    exact ⟨a, r, _, ha, hn, hw⟩
  · have ns : ¬ Sunk (Arc l) n := fun hk => by
      obtain ⟨v, r, c, h1, h2, h3, h4⟩ := Sunk.short (Arc.lt hl) hk
      have := ((hr v h1).cpl r v c (by omega) h4).2
      have := hd v h1
      omega
    have sh : ∀ a b r c, a < n → Way (Arc l) a b r c → H a b = true ∧ D a b ≤ c := fun a b r c ha hw => by
      rcases Way.short (Arc.lt hl) ha r b c hw with ⟨r', c', q1, q2, q3⟩ | ⟨v, e, c', q1, q2, q3, q4⟩
      · have := (hr a ha).cpl r' b c' (by omega) q3
        exact ⟨this.1, by omega⟩
      · exact absurd ⟨v, e, c', q1, q3, q4⟩ ns
    refine ⟨ns, fun a b ha hb => ?_⟩
    cases hh : H a b
    · left
      refine ⟨rfl, fun r c hw => ?_⟩
      have := (sh a b r c ha hw).1
      rw [hh] at this; cases this
    · right
      obtain ⟨r, _, hw⟩ := (hr a ha).snd b hh
      exact ⟨rfl, ⟨r, hw⟩, fun r' c' hw' => (sh a b r' c' ha hw').2⟩
end Go.Proofs.YtmdadjmlmohjcaaDoor
