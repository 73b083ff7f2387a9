/- Ways over arcs: the shortest, and ways around that are below nothing. No program stands here. -/
import Derived.Below
namespace Go.Proofs.YtdjkhagdckhijaaDoor
set_option linter.unusedVariables false
set_option linter.unusedSimpArgs false
/-- a way of so many arcs, and what they say together. -/
inductive Way (A : Nat → Nat → Int → Prop) (a : Nat) : Nat → Nat → Int → Prop
  | start : Way A a a 0 0
  | go {b d r : Nat} {c w : Int} : Way A a b r c → A b d w → Way A a d (r + 1) (c + w)
section
variable {A : Nat → Nat → Int → Prop}
theorem Way.app {a b d r s : Nat} {c e : Int} (h : Way A a b r c) (g : Way A b d s e) : Way A a d (r + s) (c + e) := by
  induction g with
  | start => simpa using h
  | go g' hw ih => rw [← Nat.add_assoc, ← Int.add_assoc]; exact .go ih hw
theorem Way.one {a b : Nat} {w : Int} (h : A a b w) : Way A a b 1 w := by
  have := Way.go (.start (A := A) (a := a)) h
  simpa using this
theorem Way.eq {a b r r' : Nat} {c c' : Int} (h : Way A a b r c) (hr : r = r') (hc : c = c') : Way A a b r' c' := by subst hr; subst hc; exact h
theorem Way.cut {a b : Nat} (i j : Nat) {c : Int} (h : Way A a b (i + j) c) : ∃ x c1 c2, Way A a x i c1 ∧ Way A x b j c2 ∧ c = c1 + c2 := by
  induction j generalizing b c with
  | zero => exact ⟨b, c, 0, h, .start, by omega⟩
  | succ j ih =>
    rw [← Nat.add_assoc] at h
    cases h with
    | go g hw =>
      obtain ⟨x, c1, c2, h1, h2, h3⟩ := ih g
      exact ⟨x, c1, _, h1, .go h2 hw, by omega⟩
theorem Way.lt {n a b r : Nat} {c : Int} (hA : ∀ x y w, A x y w → x < n ∧ y < n) (ha : a < n) (h : Way A a b r c) : b < n := by
  cases h with
  | start => exact ha
  | go _ hw => exact (hA _ _ _ hw).2
theorem pigeon (n : Nat) : ∀ L : List Nat, L.Nodup → (∀ x ∈ L, x < n) → L.length ≤ n := by
  induction n with
  | zero =>
    intro L _ h
    cases L with
    | nil => simp
    | cons x L => exact absurd (h x (by simp)) (by omega)
  | succ n ih =>
    intro L hn h
    by_cases hm : n ∈ L
    · have h1 := ih (L.erase n) (hn.erase n) (fun x hx => by
        have hx2 := (hn.mem_erase_iff).1 hx
        have := h x hx2.2
        have := hx2.1
        omega)
      rw [List.length_erase_of_mem hm] at h1
      omega
    · have h1 := ih L hn (fun x hx => by
        have := h x hx
        have : x ≠ n := fun e => hm (e ▸ hx)
        omega)
      omega
theorem Way.nodes {n a : Nat} (hA : ∀ x y w, A x y w → x < n ∧ y < n) (ha : a < n) : ∀ (r b : Nat) (c : Int), Way A a b r c →
    (∃ L : List Nat, L.Nodup ∧ L.length = r + 1 ∧ (∀ x ∈ L, x < n) ∧ ∀ x ∈ L, ∃ i j c1 c2, i + j = r ∧ Way A a x i c1 ∧ Way A x b j c2 ∧ c1 + c2 = c)
    ∨ (∃ v i e k c1 c2 c3, 0 < e ∧ i + e + k = r ∧ Way A a v i c1 ∧ Way A v v e c2 ∧ Way A v b k c3 ∧ c1 + c2 + c3 = c) := by
  intro r
  induction r with
  | zero =>
    intro b c h
    cases h
    exact .inl ⟨[a], by simp, rfl, by simpa using ha, fun x hx => by
      obtain rfl : x = a := by simpa using hx
      exact ⟨0, 0, 0, 0, rfl, .start, .start, by omega⟩⟩
  | succ r ih =>
    intro b c h
    have hb := h.lt hA ha
    cases h with
    | @go y d r' c' w g hw =>
      rcases ih _ _ g with ⟨L, h1, h2, h3, h4⟩ | ⟨v, i, e, k, c1, c2, c3, h1, h2, h3, h4, h5, h6⟩
      · by_cases hm : b ∈ L
        · obtain ⟨i, j, c1, c2, e1, e2, e3, e4⟩ := h4 b hm
          exact .inr ⟨b, i, j + 1, 0, c1, c2 + w, 0, by omega, by omega, e2, .go e3 hw, .start, by omega⟩
        · refine .inl ⟨b :: L, List.nodup_cons.2 ⟨hm, h1⟩, by simp [h2], fun x hx => ?_, fun x hx => ?_⟩
          · rcases List.mem_cons.1 hx with rfl | hx
            · exact hb
            · exact h3 x hx
          · rcases List.mem_cons.1 hx with rfl | hx
            · exact ⟨r + 1, 0, c' + w, 0, by omega, .go g hw, .start, by omega⟩
            · obtain ⟨i, j, c1, c2, e1, e2, e3, e4⟩ := h4 x hx
              exact ⟨i, j + 1, c1, c2 + w, by omega, e2, .go e3 hw, by omega⟩
      · exact .inr ⟨v, i, e, k + 1, c1, c2, c3 + w, h1, by omega, h3, h4, .go h5 hw, by omega⟩
/-- a way can be made short, or some short way around is below nothing. -/
theorem Way.short {n a : Nat} (hA : ∀ x y w, A x y w → x < n ∧ y < n) (ha : a < n) : ∀ (r b : Nat) (c : Int), Way A a b r c →
    (∃ r' c', r' < n ∧ c' ≤ c ∧ Way A a b r' c') ∨ (∃ v e c', v < n ∧ e ≤ n ∧ c' < 0 ∧ Way A v v e c') := by
  intro r
  induction r using Nat.strongRecOn with
  | ind r ih =>
    intro b c h
    by_cases hr : r < n
    · exact .inl ⟨r, c, hr, by omega, h⟩
    · obtain ⟨u, c1, c2, g1, g2, g3⟩ := Way.cut n (r - n) (h.eq (by omega) rfl)
      rcases Way.nodes hA ha _ _ _ g1 with ⟨L, h1, h2, h3, h4⟩ | ⟨v, i, e, k, d1, d2, d3, h1, h2, h3, h4, h5, h6⟩
      · have := pigeon n L h1 h3
        omega
      · have hv := h3.lt hA ha
        by_cases hd : d2 < 0
        · exact .inr ⟨v, e, d2, hv, by omega, hd, h4⟩
        · rcases ih (i + (k + (r - n))) (by omega) b _ (h3.app (h5.app g2)) with ⟨r', c', q1, q2, q3⟩ | hx
          · exact .inl ⟨r', c', q1, by omega, q3⟩
          · exact .inr hx
end
/-- there is a way around that is below nothing. -/
def Sunk (A : Nat → Nat → Int → Prop) (n : Nat) : Prop := ∃ v r c, v < n ∧ c < 0 ∧ Way A v v r c
theorem Sunk.short {A : Nat → Nat → Int → Prop} {n : Nat} (hA : ∀ x y w, A x y w → x < n ∧ y < n) (h : Sunk A n) : ∃ v r c, v < n ∧ r ≤ n ∧ c < 0 ∧ Way A v v r c := by
  obtain ⟨v, r, c, h1, h2, h3⟩ := h
  rcases Way.short hA h1 _ _ _ h3 with ⟨r', c', q1, q2, q3⟩ | hx
  · exact ⟨v, r', c', h1, by omega, by omega, q3⟩
  · exact hx
/-- the shortest way says so much. -/
def Near (A : Nat → Nat → Int → Prop) (a b : Nat) (c : Int) : Prop := (∃ r, Way A a b r c) ∧ ∀ r c', Way A a b r c' → c ≤ c'
theorem Near.one {A : Nat → Nat → Int → Prop} {a b : Nat} {c d : Int} (h : Near A a b c) (g : Near A a b d) : c = d := by
  obtain ⟨⟨r, h1⟩, h2⟩ := h
  obtain ⟨⟨s, g1⟩, g2⟩ := g
  have := h2 _ _ g1
  have := g2 _ _ h1
  omega
def farI : Int := 1152921504606846976
/-- what a table of bounds tells: no way, or the shortest. -/
def Tells (A : Nat → Nat → Int → Prop) (n : Nat) (D : Nat → Nat → Int) (H : Nat → Nat → Bool) : Prop :=
  ∀ a b, a < n → b < n → (H a b = false ∧ ∀ r c, ¬ Way A a b r c) ∨ (H a b = true ∧ Near A a b (D a b))
theorem Tells.has {A : Nat → Nat → Int → Prop} {n : Nat} {D E : Nat → Nat → Int} {H G : Nat → Nat → Bool} (h : Tells A n D H) (g : Tells A n E G) {a b : Nat} (ha : a < n) (hb : b < n) : H a b = G a b := by
  rcases h a b ha hb with ⟨h1, h2⟩ | ⟨h1, ⟨r, h2⟩, _⟩ <;> rcases g a b ha hb with ⟨g1, g2⟩ | ⟨g1, ⟨s, g2⟩, _⟩
  · rw [h1, g1]
  · exact absurd g2 (h2 _ _)
  · exact absurd h2 (g2 _ _)
  · rw [h1, g1]
theorem Tells.same {A : Nat → Nat → Int → Prop} {n : Nat} {D E : Nat → Nat → Int} {H G : Nat → Nat → Bool} (h : Tells A n D H) (g : Tells A n E G) {a b : Nat} (ha : a < n) (hb : b < n) (hh : H a b = true) : D a b = E a b := by
  have hg := (h.has g ha hb).symm.trans hh
  rcases h a b ha hb with ⟨h1, h2⟩ | ⟨h1, h2⟩
  · rw [hh] at h1; cases h1
  · rcases g a b ha hb with ⟨g1, g2⟩ | ⟨g1, g2⟩
    · rw [hg] at g1; cases g1
    · exact h2.one g2
end Go.Proofs.YtdjkhagdckhijaaDoor
