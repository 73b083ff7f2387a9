/- The two ways to reckon all bounds: over each node in turn, and along all edges again and again. No program stands here. -/
import Derived.Test.YtdjkhagdckhijaaDoorWayP
import Derived.Test.YtdjkhagdckhijaaDoorRec
namespace Go.Proofs.YtdjkhagdckhijaaDoor
open Go.RowKit
set_option linter.unusedVariables false
set_option linter.unusedSimpArgs false
/-- edges that may be. -/
def edgeB (n : Nat) (e : REdge) : Prop := 0 ≤ e.a ∧ e.a < n ∧ 0 ≤ e.b ∧ e.b < n ∧ e.a ≠ e.b ∧ -1000000000000 ≤ e.lo ∧ e.lo ≤ e.hi ∧ e.hi ≤ 1000000000000
def EdgesOk (n : Nat) (l : List REdge) : Prop := ∀ e ∈ l, edgeB n e
/-- what an edge says, either way. -/
def Arc (l : List REdge) (x y : Nat) (w : Int) : Prop := ∃ e ∈ l, (e.a = x ∧ e.b = y ∧ w = e.hi) ∨ (e.b = x ∧ e.a = y ∧ w = -e.lo)
theorem Arc.bd {n : Nat} {l : List REdge} (hl : EdgesOk n l) {x y : Nat} {w : Int} (h : Arc l x y w) : x < n ∧ y < n ∧ x ≠ y ∧ -1000000000000 ≤ w ∧ w ≤ 1000000000000 := by
  obtain ⟨e, he, h⟩ := h
  have := hl e he
  unfold edgeB at this
  rcases h with ⟨h1, h2, h3⟩ | ⟨h1, h2, h3⟩ <;> omega
theorem Arc.lt {n : Nat} {l : List REdge} (hl : EdgesOk n l) : ∀ x y w, Arc l x y w → x < n ∧ y < n := fun _ _ _ h => ⟨(h.bd hl).1, (h.bd hl).2.1⟩
theorem Arc.mono {l m : List REdge} (h : ∀ e ∈ l, e ∈ m) {x y : Nat} {w : Int} (g : Arc l x y w) : Arc m x y w := by
  obtain ⟨e, he, g⟩ := g
  exact ⟨e, h e he, g⟩
theorem Way.mono {A B : Nat → Nat → Int → Prop} (h : ∀ x y w, A x y w → B x y w) {a b r : Nat} {c : Int} (g : Way A a b r c) : Way B a b r c := by
  induction g with
  | start => exact .start
  | go _ hw ih => exact .go ih (h _ _ _ hw)
/-- one entry anew. -/
def up2 (D : Nat → Nat → Int) (a b : Nat) (v : Int) : Nat → Nat → Int := fun i j => if i = a ∧ j = b then v else D i j
theorem up2_at (D : Nat → Nat → Int) (a b : Nat) (v : Int) : up2 D a b v a b = v := by simp [up2]
theorem up2_ne (D : Nat → Nat → Int) {a b i j : Nat} (v : Int) (h : ¬ (i = a ∧ j = b)) : up2 D a b v i j = D i j := by simp [up2, h]
theorem up2_le {D : Nat → Nat → Int} {a b : Nat} {v : Int} (h : v ≤ D a b) (i j : Nat) : up2 D a b v i j ≤ D i j := by
  unfold up2
  split
  · rename_i e; rw [e.1, e.2]; exact h
  · omega
/-! ## over each node in turn -/
def XB : Nat → Int
  | 0 => 1000000000000
  | m + 1 => 6 * XB m
theorem XB_bd (m : Nat) (h : m ≤ 6) : 1000000000000 ≤ XB m ∧ XB m ≤ 46656000000000000 := by
  have : m = 0 ∨ m = 1 ∨ m = 2 ∨ m = 3 ∨ m = 4 ∨ m = 5 ∨ m = 6 := by omega
  rcases this with rfl | rfl | rfl | rfl | rfl | rfl | rfl <;> decide
/-- an entry: none, or within bounds, and what some way says. -/
def Ent (A : Nat → Nat → Int → Prop) (X : Int) (a b : Nat) (v : Int) : Prop := v = farI ∨ (-X ≤ v ∧ v ≤ X ∧ ∃ r, Way A a b r v)
theorem Ent.mono {A : Nat → Nat → Int → Prop} {X Y : Int} (h : X ≤ Y) {a b : Nat} {v : Int} (g : Ent A X a b v) : Ent A Y a b v := by
  rcases g with g | ⟨g1, g2, g3⟩
  · exact .inl g
  · exact .inr ⟨by omega, by omega, g3⟩
theorem Ent.cut {A : Nat → Nat → Int → Prop} {X : Int} {a b : Nat} {v : Int} (g : Ent A X a b v) (h : v < farI) : -X ≤ v ∧ v ≤ X ∧ ∃ r, Way A a b r v := by
  rcases g with g | g
  · omega
  · exact g
/-- the table of edges, the first k of them told. -/
structure EInv (n : Nat) (l : List REdge) (k : Nat) (D : Nat → Nat → Int) : Prop where
  diag : ∀ a, a < n → D a a = 0
  ent : ∀ a b, a < n → b < n → Ent (Arc l) 1000000000000 a b (D a b)
  arc : ∀ x y w, Arc (l.take k) x y w → D x y ≤ w
theorem EInv.init (n : Nat) (l : List REdge) (D : Nat → Nat → Int) (h : ∀ a b, a < n → b < n → D a b = if a = b then 0 else farI) : EInv n l 0 D :=
  ⟨fun a ha => by rw [h a a ha ha, if_pos rfl], fun a b ha hb => by
    rw [h a b ha hb]
    by_cases e : a = b
    · subst e; rw [if_pos rfl]; exact .inr ⟨by omega, by omega, 0, .start⟩
    · rw [if_neg e]; exact .inl rfl, fun x y w h => by
    obtain ⟨e, he, _⟩ := h
    simp at he⟩
theorem take_arc {l : List REdge} {k : Nat} {e : REdge} (he : l[k]? = some e) {x y : Nat} {w : Int} (h : Arc (l.take (k + 1)) x y w) : Arc (l.take k) x y w ∨ (e.a = x ∧ e.b = y ∧ w = e.hi) ∨ (e.b = x ∧ e.a = y ∧ w = -e.lo) := by
  obtain ⟨e', he', h⟩ := h
  rw [List.take_add_one, he] at he'
  rcases List.mem_append.1 he' with g | g
  · exact .inl ⟨e', g, h⟩
  · obtain rfl : e' = e := by simpa using g
    exact .inr h
theorem EInv.step {n : Nat} {l : List REdge} {k : Nat} {D : Nat → Nat → Int} (hl : EdgesOk n l) (h : EInv n l k D) {e : REdge} (he : l[k]? = some e) {a b : Nat} (ha : e.a = a) (hb : e.b = b) :
    EInv n l (k + 1) (up2 (up2 D a b (min (D a b) e.hi)) b a (min (D b a) (-e.lo))) := by
  have hm := List.mem_of_getElem? he
  have hk := hl e hm
  unfold edgeB at hk
  have hab : a ≠ b := by omega
  have ab : Arc l a b e.hi := ⟨e, hm, .inl ⟨by omega, by omega, rfl⟩⟩
  have ba : Arc l b a (-e.lo) := ⟨e, hm, .inr ⟨by omega, by omega, rfl⟩⟩
  have e1 : ∀ i j, up2 (up2 D a b (min (D a b) e.hi)) b a (min (D b a) (-e.lo)) i j = if i = b ∧ j = a then min (D b a) (-e.lo) else if i = a ∧ j = b then min (D a b) e.hi else D i j := fun i j => rfl
  refine ⟨fun i hi => ?_, fun i j hi hj => ?_, fun x y w hw => ?_⟩
  · rw [e1, if_neg (by omega), if_neg (by omega)]; exact h.diag i hi
  · rw [e1]
    by_cases c1 : i = b ∧ j = a
    · rw [if_pos c1]
      obtain ⟨rfl, rfl⟩ := c1
      rcases Int.le_total (D i j) (-e.lo) with q | q
      · rw [Int.min_eq_left q]; exact h.ent i j hi hj
      · rw [Int.min_eq_right q]; exact .inr ⟨by omega, by omega, 1, .one ba⟩
    · rw [if_neg c1]
      by_cases c2 : i = a ∧ j = b
      · rw [if_pos c2]
        obtain ⟨rfl, rfl⟩ := c2
        rcases Int.le_total (D i j) e.hi with q | q
        · rw [Int.min_eq_left q]; exact h.ent i j hi hj
        · rw [Int.min_eq_right q]; exact .inr ⟨by omega, by omega, 1, .one ab⟩
      · rw [if_neg c2]; exact h.ent i j hi hj
  · rw [e1]
    rcases take_arc he hw with g | ⟨g1, g2, g3⟩ | ⟨g1, g2, g3⟩
    · have := h.arc x y w g
      split
      · rename_i c; rw [← c.1, ← c.2]; omega
      · split
        · rename_i c; rw [← c.1, ← c.2]; omega
        · exact this
    · rw [if_neg (by omega), if_pos (by omega)]; omega
    · rw [if_pos (by omega)]; omega
/-- what the round over node m makes of an entry. -/
def pick (E : Nat → Nat → Int) (m a b : Nat) : Int := if E a m < farI ∧ E m b < farI then min (E a b) (E a m + E m b) else E a b
/-- no entry is above the sum over a node that is done. -/
def Clo (n m : Nat) (E : Nat → Nat → Int) : Prop := ∀ j, j < m → ∀ a b, a < n → b < n → E a j < farI → E j b < farI → E a b ≤ E a j + E j b
/-- is an entry done in this round? -/
def doneB (i k a b : Nat) : Bool := decide (a < i) || (decide (a = i) && decide (b < k))
theorem doneB_iff {i k a b : Nat} : doneB i k a b = true ↔ a < i ∨ (a = i ∧ b < k) := by simp [doneB]
def lim (X : Int) (m a b : Nat) : Int := if a = m ∧ b = m then 2 * X else if a = m ∨ b = m then 3 * X else 6 * X
/-- the round over node m, at entry (i, k). -/
structure FInv (n : Nat) (l : List REdge) (m i k : Nat) (D : Nat → Nat → Int) : Prop where
  ent : ∀ a b, a < n → b < n → Ent (Arc l) (if doneB i k a b = true then lim (XB m) m a b else XB m) a b (D a b)
  neg : (∃ a, a < n ∧ D a a < 0) ∨ ∃ E : Nat → Nat → Int, Clo n m E ∧ (∀ a, a < n → E a a = 0) ∧ (∀ a b, a < n → b < n → Ent (Arc l) (XB m) a b (E a b)) ∧ (∀ x y w, Arc l x y w → E x y ≤ w) ∧
    ∀ a b, a < n → b < n → D a b = if doneB i k a b = true then pick E m a b else E a b
theorem FInv.init {n : Nat} {l : List REdge} {D : Nat → Nat → Int} (h : EInv n l l.length D) : FInv n l 0 0 0 D :=
  ⟨fun a b ha hb => by
    have : doneB 0 0 a b = false := by simp [doneB]
    rw [this]; exact h.ent a b ha hb, .inr ⟨D, fun j hj => absurd hj (by omega), h.diag, h.ent, fun x y w hw => h.arc x y w (by rw [List.take_length]; exact hw), fun a b _ _ => by
    have : doneB 0 0 a b = false := by simp [doneB]
    rw [this]; rfl⟩⟩
theorem FInv.step {n : Nat} {l : List REdge} {m i k : Nat} {D : Nat → Nat → Int} (hm : m < n) (hm6 : m < 6) (hi : i < n) (hk : k < n) (h : FInv n l m i k D) :
    FInv n l m i (k + 1) (if D i m < farI ∧ D m k < farI then up2 D i k (min (D i k) (D i m + D m k)) else D) := by
  have hX := XB_bd m (by omega)
  generalize hX' : XB m = X at hX
  have hd : ∀ a b, ¬ (a = i ∧ b = k) → doneB i (k + 1) a b = doneB i k a b := fun a b hne => by
    rw [Bool.eq_iff_iff, doneB_iff, doneB_iff]; omega
  have hd1 : doneB i (k + 1) i k = true := doneB_iff.2 (by omega)
  have hd0 : doneB i k i k = false := by
    cases e : doneB i k i k
    · rfl
    · have := doneB_iff.1 e; omega
  obtain ⟨he, hn⟩ := h
  rw [hX'] at he
  by_cases hc : D i m < farI ∧ D m k < farI
  · rw [if_pos hc]
    refine ⟨fun a b ha hb => ?_, ?_⟩
    · rw [hX']
      by_cases hab : a = i ∧ b = k
      · obtain ⟨rfl, rfl⟩ := hab
        rw [up2_at, hd1, if_pos rfl]
        rcases Int.le_total (D a b) (D a m + D m b) with q | q
        · rw [Int.min_eq_left q]
          have := he a b ha hb
          rw [hd0] at this
          exact Ent.mono (by simp only [Bool.false_eq_true, if_false]; unfold lim; split <;> (try split) <;> omega) this
        · rw [Int.min_eq_right q]
          obtain ⟨p1, p2, r, p3⟩ := (he a m ha hm).cut hc.1
          obtain ⟨q1, q2, s, q3⟩ := (he m b hm hb).cut hc.2
          refine .inr ⟨?_, ?_, r + s, p3.app q3⟩
          · unfold lim at *
            by_cases c1 : a = m <;> by_cases c2 : b = m
            · subst c1; subst c2
              rw [hd0] at p1 q1
              simp at p1 q1 ⊢; omega
            · subst c1
              rw [hd0] at q1
              simp [c2] at p1 q1 ⊢
              split at p1 <;> omega
            · subst c2
              rw [hd0] at p1
              simp [c1] at p1 q1 ⊢
              split at q1 <;> omega
            · simp [c1, c2] at p1 q1 ⊢
              split at p1 <;> split at q1 <;> omega
          · unfold lim at *
            by_cases c1 : a = m <;> by_cases c2 : b = m
            · subst c1; subst c2
              rw [hd0] at p2 q2
              simp at p2 q2 ⊢; omega
            · subst c1
              rw [hd0] at q2
              simp [c2] at p2 q2 ⊢
              split at p2 <;> omega
            · subst c2
              rw [hd0] at p2
              simp [c1] at p2 q2 ⊢
              split at q2 <;> omega
            · simp [c1, c2] at p2 q2 ⊢
              split at p2 <;> split at q2 <;> omega
      · rw [up2_ne _ _ hab, hd a b hab]
        exact he a b ha hb
    · rcases hn with ⟨a, ha, hneg⟩ | ⟨E, n1, n2, n3, n4, n5⟩
      · left
        exact ⟨a, ha, Int.lt_of_le_of_lt (up2_le (by omega) a a) hneg⟩
      · right
        refine ⟨E, n1, n2, n3, n4, fun a b ha hb => ?_⟩
        by_cases hab : a = i ∧ b = k
        · obtain ⟨rfl, rfl⟩ := hab
          have zm := n2 m hm
          have g1 : D a m = E a m := by
            rw [n5 a m ha hm]
            split
            · unfold pick
              rw [zm]
              split <;> omega
            · rfl
          have g2 : D m b = E m b := by
            rw [n5 m b hm hb]
            split
            · unfold pick
              rw [zm]
              split <;> omega
            · rfl
          have g3 : D a b = E a b := by rw [n5 a b ha hb, hd0]; rfl
          rw [up2_at, hd1, if_pos rfl]
          unfold pick
          rw [← g1, ← g2, ← g3, if_pos hc]
        · rw [up2_ne _ _ hab, hd a b hab]
          exact n5 a b ha hb
  · rw [if_neg hc]
    refine ⟨fun a b ha hb => ?_, ?_⟩
    · rw [hX']
      by_cases hab : a = i ∧ b = k
      · obtain ⟨rfl, rfl⟩ := hab
        have := he a b ha hb
        rw [hd0] at this
        rw [hd1, if_pos rfl]
        exact Ent.mono (by simp only [Bool.false_eq_true, if_false]; unfold lim; split <;> (try split) <;> omega) this
      · rw [hd a b hab]
        exact he a b ha hb
    · rcases hn with hn | ⟨E, n1, n2, n3, n4, n5⟩
      · exact .inl hn
      · right
        refine ⟨E, n1, n2, n3, n4, fun a b ha hb => ?_⟩
        by_cases hab : a = i ∧ b = k
        · obtain ⟨rfl, rfl⟩ := hab
          have zm := n2 m hm
          have g1 : D a m = E a m := by
            rw [n5 a m ha hm]
            split
            · unfold pick
              rw [zm]
              split <;> omega
            · rfl
          have g2 : D m b = E m b := by
            rw [n5 m b hm hb]
            split
            · unfold pick
              rw [zm]
              split <;> omega
            · rfl
          have g3 : D a b = E a b := by rw [n5 a b ha hb, hd0]; rfl
          rw [hd1, if_pos rfl]
          unfold pick
          rw [← g1, ← g2, ← g3, if_neg hc]
        · rw [hd a b hab]
          exact n5 a b ha hb
theorem FInv.row {n : Nat} {l : List REdge} {m i : Nat} {D : Nat → Nat → Int} (h : FInv n l m i n D) : FInv n l m (i + 1) 0 D := by
  have hd : ∀ a b, b < n → doneB (i + 1) 0 a b = doneB i n a b := fun a b hb => by
    rw [Bool.eq_iff_iff, doneB_iff, doneB_iff]; omega
  refine ⟨fun a b ha hb => by rw [hd a b hb]; exact h.ent a b ha hb, ?_⟩
  rcases h.neg with hn | ⟨E, n1, n2, n3, n4, n5⟩
  · exact .inl hn
  · exact .inr ⟨E, n1, n2, n3, n4, fun a b ha hb => by rw [hd a b hb]; exact n5 a b ha hb⟩
theorem lim_le {X : Int} (h : 0 ≤ X) (m a b : Nat) : lim X m a b ≤ 6 * X := by
  unfold lim
  split
  · omega
  · split <;> omega
theorem FInv.next {n : Nat} {l : List REdge} {m : Nat} {D : Nat → Nat → Int} (hl : EdgesOk n l) (hm : m < n) (hm6 : m < 6) (h : FInv n l m n 0 D) : FInv n l (m + 1) 0 0 D := by
  have hX := XB_bd m (by omega)
  have hd : ∀ a b, a < n → doneB n 0 a b = true := fun a b ha => doneB_iff.2 (by omega)
  have hd0 : ∀ a b, doneB 0 0 a b = false := fun a b => by simp [doneB]
  have hent : ∀ a b, a < n → b < n → Ent (Arc l) (XB (m + 1)) a b (D a b) := fun a b ha hb => by
    have := h.ent a b ha hb
    rw [hd a b ha, if_pos rfl] at this
    exact this.mono (lim_le (by omega) _ _ _)
  refine ⟨fun a b ha hb => by rw [hd0]; exact hent a b ha hb, ?_⟩
  rcases h.neg with hn | ⟨E, n1, n2, n3, n4, n5⟩
  · exact .inl hn
  · by_cases hneg : ∃ a, a < n ∧ D a a < 0
    · exact .inl hneg
    · right
      have hD : ∀ a b, a < n → b < n → D a b = pick E m a b := fun a b ha hb => by rw [n5 a b ha hb, hd a b ha]; rfl
      have zm := n2 m hm
      have pk : ∀ a b, a < n → b < n → pick E m a b ≤ E a b := fun a b _ _ => by unfold pick; split <;> omega
      have pf : ∀ a b, a < n → b < n → pick E m a b < farI → (E a b < farI ∧ pick E m a b = E a b) ∨ (E a m < farI ∧ E m b < farI ∧ pick E m a b = E a m + E m b) := fun a b ha hb hp => by
        unfold pick at hp ⊢
        split
        · rename_i c
          rw [if_pos c] at hp
          rcases Int.le_total (E a b) (E a m + E m b) with q | q
          · left; rw [Int.min_eq_left q] at hp ⊢; exact ⟨hp, rfl⟩
          · right; exact ⟨c.1, c.2, Int.min_eq_right q⟩
        · rename_i c
          rw [if_neg c] at hp
          exact .inl ⟨hp, rfl⟩
      have le1 : ∀ a b, a < n → b < n → E a m < farI → E m b < farI → pick E m a b ≤ E a m + E m b := fun a b _ _ h1 h2 => by unfold pick; rw [if_pos ⟨h1, h2⟩]; omega
      have fin : ∀ a b, a < n → b < n → ∀ j, j < n → E a j < farI → E j b < farI → E a j + E j b < farI := fun a b ha hb j hj h1 h2 => by
        obtain ⟨_, p2, _⟩ := (n3 a j ha hj).cut h1
        obtain ⟨_, q2, _⟩ := (n3 j b hj hb).cut h2
        unfold farI at *
        omega
      refine ⟨D, fun j hj a b ha hb h1 h2 => ?_, fun a ha => ?_, hent, fun x y w hw => ?_, fun a b _ _ => by rw [hd0]; rfl⟩
      · have hjn : j < n := by omega
        rw [hD a j ha hjn] at h1 ⊢
        rw [hD j b hjn hb] at h2 ⊢
        rw [hD a b ha hb]
        have mm : ∀ j, j < m → j < n → E m j < farI → E j m < farI → 0 ≤ E m j + E j m := fun j hj hjn h1 h2 => by
          have := n1 j hj m m hm hm h1 h2
          omega
        by_cases ejm : j = m
        · subst ejm
          rcases pf a j ha hjn h1 with ⟨u1, u2⟩ | ⟨u1, u2, u3⟩ <;> rcases pf j b hjn hb h2 with ⟨v1, v2⟩ | ⟨v1, v2, v3⟩
          · rw [u2, v2]; exact le1 a b ha hb u1 v1
          · rw [u2, v3]; have := le1 a b ha hb u1 v2; omega
          · rw [u3, v2]; have := le1 a b ha hb u1 v1; omega
          · rw [u3, v3]; have := le1 a b ha hb u1 v2; omega
        · have hj' : j < m := by omega
          rcases pf a j ha hjn h1 with ⟨u1, u2⟩ | ⟨u1, u2, u3⟩ <;> rcases pf j b hjn hb h2 with ⟨v1, v2⟩ | ⟨v1, v2, v3⟩
          · rw [u2, v2]
            have := n1 j hj' a b ha hb u1 v1
            have := pk a b ha hb
            omega
          · rw [u2, v3]
            have t1 := n1 j hj' a m ha hm u1 v1
            have t2 := fin a m ha hm j hjn u1 v1
            have := le1 a b ha hb (by omega) v2
            omega
          · rw [u3, v2]
            have t1 := n1 j hj' m b hm hb u2 v1
            have t2 := fin m b hm hb j hjn u2 v1
            have := le1 a b ha hb u1 (by omega)
            omega
          · rw [u3, v3]
            have t1 := mm j hj' hjn u2 v1
            have := le1 a b ha hb u1 v2
            omega
      · have h0 : 0 ≤ D a a := by
          rcases Int.lt_or_le (D a a) 0 with q | q
          · exact absurd ⟨a, ha, q⟩ hneg
          · exact q
        have := pk a a ha ha
        rw [hD a a ha ha] at h0 ⊢
        rw [n2 a ha] at this
        omega
      · by_cases hx : x < n ∧ y < n
        · rw [hD x y hx.1 hx.2]
          have := pk x y hx.1 hx.2
          have := n4 x y w hw
          omega
        · exact absurd hw (by
            intro hw
            exact hx (Arc.lt hl x y w hw))
/-- an entry that is not far is small. -/
theorem FInv.fin {n : Nat} {l : List REdge} {m i k : Nat} {D : Nat → Nat → Int} (h : FInv n l m i k D) (hm : m < 6) {a b : Nat} (ha : a < n) (hb : b < n) : D a b < farI → -46656000000000000 * 6 ≤ D a b ∧ D a b ≤ 46656000000000000 * 6 := by
  intro hf
  have hX := XB_bd m (by omega)
  obtain ⟨p1, p2, _⟩ := (h.ent a b ha hb).cut hf
  have hl := lim_le (X := XB m) (by omega) m a b
  split at p1 <;> omega
/-- the end: below nothing just if some way around is; else the shortest ways. -/
theorem FInv.fine {n : Nat} {l : List REdge} {D : Nat → Nat → Int} (hl : EdgesOk n l) (hn : n ≤ 6) (h : FInv n l n 0 0 D) (hd : ∀ a, a < n → 0 ≤ D a a) :
    ¬ Sunk (Arc l) n ∧ Tells (Arc l) n D (fun a b => decide (D a b < farI)) ∧ ∀ a b, a < n → b < n → D a b = farI ∨ (-46656000000000000 ≤ D a b ∧ D a b ≤ 46656000000000000) := by
  have hX := XB_bd n hn
  have hz : ∀ a b, doneB 0 0 a b = false := fun a b => by simp [doneB]
  rcases h.neg with ⟨a, ha, hneg⟩ | ⟨E, n1, n2, n3, n4, n5⟩
  · have := hd a ha; omega
  · have hDE : ∀ a b, a < n → b < n → D a b = E a b := fun a b ha hb => by rw [n5 a b ha hb, hz]; rfl
    have hfar : farI = 1152921504606846976 := rfl
    have key : ∀ a r b c, a < n → Way (Arc l) a b r c → b < n ∧ E a b < farI ∧ E a b ≤ c := by
      intro a r b c ha hw
      induction hw with
      | start => exact ⟨ha, by rw [n2 a ha]; omega, by rw [n2 a ha]; omega⟩
      | @go x y r c w g hw ih =>
        obtain ⟨i1, i2, i3⟩ := ih
        have hb := hw.bd hl
        have e1 := n4 _ _ _ hw
        obtain ⟨p1, p2, _⟩ := (n3 a x ha i1).cut i2
        have e2 : E x y < farI := by omega
        obtain ⟨q1, q2, _⟩ := (n3 x y i1 hb.2.1).cut e2
        have e3 := n1 x i1 a y ha hb.2.1 i2 e2
        exact ⟨hb.2.1, by omega, by omega⟩
    refine ⟨?_, fun a b ha hb => ?_, fun a b ha hb => ?_⟩
    · rintro ⟨v, r, c, hv, hc, hw⟩
      obtain ⟨_, _, h3⟩ := key v r v c hv hw
      rw [n2 v hv] at h3
      omega
    · by_cases hf : D a b < farI
      · right
        refine ⟨by simpa using hf, ?_, fun r c hw => ?_⟩
        · rw [hDE a b ha hb] at hf ⊢
          exact ((n3 a b ha hb).cut hf).2.2
        · rw [hDE a b ha hb]
          exact (key a r b c ha hw).2.2
      · left
        refine ⟨by simpa using hf, fun r c hw => ?_⟩
        rw [hDE a b ha hb] at hf
        exact hf (key a r b c ha hw).2.1
    · rcases n3 a b ha hb with q | ⟨q1, q2, _⟩
      · left; rw [hDE a b ha hb]; exact q
      · right; rw [hDE a b ha hb]; omega
theorem FInv.sunk {n : Nat} {l : List REdge} {D : Nat → Nat → Int} (h : FInv n l n 0 0 D) {a : Nat} (ha : a < n) (hd : D a a < 0) : Sunk (Arc l) n := by
  have hf : D a a < farI := by unfold farI; omega
  obtain ⟨_, _, r, hr⟩ := (h.ent a a ha ha).cut hf
  exact ⟨a, r, D a a, ha, hd, hr⟩
end Go.Proofs.YtdjkhagdckhijaaDoor
