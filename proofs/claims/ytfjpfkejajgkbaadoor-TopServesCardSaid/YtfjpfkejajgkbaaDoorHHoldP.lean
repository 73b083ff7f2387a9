/- What bounds tell is true, in plain words. -/
import Derived.Test.YtfjpfkejajgkbaaDoorHBetween
import Derived.Test.YtfjpfkejajgkbaaDoorHFitP
import Derived.Test.YtfjpfkejajgkbaaDoorHG1
namespace Go.Proofs.YtfjpfkejajgkbaaDoor
open Go.RowKit
set_option linter.unusedVariables false
set_option linter.unusedSimpArgs false
/-- what of two nodes is told without a fault. -/
structure BetOk (n : Nat) (zs : List REdge) (a b : Nat) (x : RSpan) : Prop where
  ok : edgesC n zs = 0
  ha : a < n
  hb : b < n
  ns : ¬ Sunk (Arc zs) n
  hi : Near (Arc zs) a b x.hi
  lo : Near (Arc zs) b a (-x.lo)
  r : rightB x.lo x.hi = true
theorem bet_ok {N : Int} {zs : List REdge} {a b : Int} {x : RSpan} (h : BetS N zs a b x 0) : ∃ n a' b' : Nat, N = n ∧ a = a' ∧ b = b' ∧ BetOk n zs a' b' x := by
  unfold BetS at h
  rcases h with ⟨h1, h2, _⟩ | ⟨_, _, h2, _⟩ | ⟨h0, hn, ⟨_, h2, _⟩ | ⟨hs, D, hD, ⟨_, h2, _⟩ | ⟨hT, ⟨_, h2, _⟩ | ⟨hf, _, hx⟩⟩⟩⟩
  · exact absurd h2.symm h1
  · omega
  · omega
  · omega
  · omega
  · obtain ⟨c1, c2, c3, c4⟩ := edgesC_0 h0
    rw [Bool.and_eq_true] at hn
    have n1 := nodeB_iff.1 hn.1
    have n2 := nodeB_iff.1 hn.2
    obtain ⟨n, rfl⟩ := Int.eq_ofNat_of_zero_le (show 0 ≤ N by omega)
    obtain ⟨a', rfl⟩ := Int.eq_ofNat_of_zero_le n1.1
    obtain ⟨b', rfl⟩ := Int.eq_ofNat_of_zero_le n2.1
    simp only [Int.toNat_natCast] at hs hD hT hf hx
    have ha : a' < n := by omega
    have hb : b' < n := by omega
    have g1 : Near (Arc zs) a' b' (D a' b') := by
      rcases hD a' b' ha hb with ⟨q, _⟩ | ⟨_, q⟩
      · simp at q; omega
      · exact q
    have g2 : Near (Arc zs) b' a' (D b' a') := by
      rcases hD b' a' hb ha with ⟨_, q⟩ | ⟨_, q⟩
      · obtain ⟨⟨r, hr⟩, _⟩ := g1
        obtain ⟨s, d, hd⟩ := way_rev hr
        exact absurd hd (q _ _)
      · exact q
    have tt := hT a' b' ha hb hf
    have t1 := timeB_iff.1 tt.1
    have t2 := timeB_iff.1 tt.2
    have le : 0 ≤ D a' b' + D b' a' := by
      obtain ⟨⟨r, hr⟩, _⟩ := g1
      obtain ⟨⟨s, hs'⟩, _⟩ := g2
      rcases Int.lt_or_le (D a' b' + D b' a') 0 with q | q
      · exact absurd ⟨a', r + s, _, ha, q, hr.app hs'⟩ hs
      · exact q
    subst hx
    exact ⟨n, a', b', rfl, rfl, rfl, h0, ha, hb, hs, g1, by simpa using g2, rightB_iff.2 (by simp only []; omega)⟩
theorem bet_7 {N : Int} {zs : List REdge} {a b : Int} {x : RSpan} (h : BetS N zs a b x 7) : Sunk (Arc zs) N.toNat := by
  unfold BetS at h
  rcases h with ⟨h1, h2, _⟩ | ⟨_, _, h2, _⟩ | ⟨h0, hn, ⟨h2, _, _⟩ | ⟨hs, D, hD, ⟨_, h2, _⟩ | ⟨hT, ⟨_, h2, _⟩ | ⟨hf, h2, hx⟩⟩⟩⟩
  · rcases edgesC_c N zs with q | q | q | q <;> omega
  · omega
  · exact h2
  · omega
  · omega
  · omega
theorem bet_in {n : Nat} {zs : List REdge} {a b : Nat} {x : RSpan} {cl : List Int} (h : BetOk n zs a b x) (hf : fitsV n zs cl = true) : hasB x.lo x.hi (cl.getD b 0 - cl.getD a 0) = true := by
  obtain ⟨⟨r, hr⟩, _⟩ := h.hi
  obtain ⟨⟨s, hs⟩, _⟩ := h.lo
  have h1 := way_pot (p := fun i => cl.getD i 0) (fit_arc hf) hr
  have h2 := way_pot (p := fun i => cl.getD i 0) (fit_arc hf) hs
  unfold hasB
  rw [h.r]
  simp only [Bool.true_and, Bool.and_eq_true, decide_eq_true_eq]
  omega
theorem bet_tri {n : Nat} {zs : List REdge} {a b c : Nat} {x y z : RSpan} (h : BetOk n zs a b x) (g : BetOk n zs a c y) (k : BetOk n zs c b z) : y.lo + z.lo ≤ x.lo ∧ x.hi ≤ y.hi + z.hi := by
  obtain ⟨_, h1⟩ := h.hi
  obtain ⟨_, h2⟩ := h.lo
  obtain ⟨⟨r, hr⟩, _⟩ := g.hi
  obtain ⟨⟨s, hs⟩, _⟩ := g.lo
  obtain ⟨⟨t, ht⟩, _⟩ := k.hi
  obtain ⟨⟨u, hu⟩, _⟩ := k.lo
  have e1 := h1 _ _ (hr.app ht)
  have e2 := h2 _ _ (hu.app hs)
  omega
theorem bet_more {n : Nat} {zs : List REdge} {m : REdge} {a b : Nat} {x v : RSpan} (h : BetOk n zs a b x) (g : BetOk n (zs ++ [m]) a b v) : x.lo ≤ v.lo ∧ v.hi ≤ x.hi := by
  obtain ⟨⟨r, hr⟩, _⟩ := h.hi
  obtain ⟨⟨s, hs⟩, _⟩ := h.lo
  obtain ⟨_, g1⟩ := g.hi
  obtain ⟨_, g2⟩ := g.lo
  have mo : ∀ x y w, Arc zs x y w → Arc (zs ++ [m]) x y w := fun x y w hw => hw.mono (fun e he => List.mem_append.2 (.inl he))
  have e1 := g1 _ _ (hr.mono mo)
  have e2 := g2 _ _ (hs.mono mo)
  omega
/-- a literal's block, read as a slice of records. -/
theorem blk_recs {E : Type} (cells : E → List Value) (ok : E → Prop) (k : Nat) (hk : ∀ z, (cells z).length = k) {w : World} {g : Nat} {t : TypeId} {zs : List E} {cs : Array Value} (h : Blk w g t cs) (hc : cs = (zs.flatMap cells).toArray) {n : Nat} (hl : zs.length = n) (hm : n ≤ maxLen) (hok : ∀ z ∈ zs, ok z) : IsRecs w cells ok k (some ⟨g, 0, none⟩) n n zs := by
  refine ⟨hl, Nat.le_refl _, hm, hok, fun _ => ⟨g, 0, rfl, h.lt, fun i z hz j u hj => ?_⟩⟩
  have := flat_get cells k hk zs i j z u hz hj
  rw [h.cell, hc, List.getElem?_toArray, Nat.zero_add]
  exact this
/-- the fact: along two edges. -/
def oneL : List REdge := [⟨0, 1, 1, 2⟩, ⟨1, 2, 10, 20⟩]
theorem one_arc {x y : Nat} {w : Int} (h : Arc oneL x y w) : (x = 0 ∧ y = 1 ∧ w = 2) ∨ (x = 1 ∧ y = 0 ∧ w = -1) ∨ (x = 1 ∧ y = 2 ∧ w = 20) ∨ (x = 2 ∧ y = 1 ∧ w = -10) := by
  obtain ⟨e, he, h⟩ := h
  simp [oneL] at he
  rcases he with rfl | rfl <;> rcases h with ⟨h1, h2, h3⟩ | ⟨h1, h2, h3⟩ <;> simp only [] at h1 h2 h3 <;> omega
def potH (i : Nat) : Int := if i = 0 then 0 else if i = 1 then 2 else 22
def potL (i : Nat) : Int := if i = 0 then 0 else if i = 1 then 1 else 11
theorem one_ways : (∃ r, Way (Arc oneL) 0 1 r 2) ∧ (∃ r, Way (Arc oneL) 1 0 r (-1)) ∧ (∃ r, Way (Arc oneL) 1 2 r 20) ∧ (∃ r, Way (Arc oneL) 2 1 r (-10)) ∧ (∃ r, Way (Arc oneL) 0 2 r 22) ∧ (∃ r, Way (Arc oneL) 2 0 r (-11)) := by
  have a1 : Arc oneL 0 1 2 := ⟨⟨0, 1, 1, 2⟩, by simp [oneL], .inl ⟨rfl, rfl, rfl⟩⟩
  have a2 : Arc oneL 1 0 (-1) := ⟨⟨0, 1, 1, 2⟩, by simp [oneL], .inr ⟨rfl, rfl, rfl⟩⟩
  have a3 : Arc oneL 1 2 20 := ⟨⟨1, 2, 10, 20⟩, by simp [oneL], .inl ⟨rfl, rfl, rfl⟩⟩
  have a4 : Arc oneL 2 1 (-10) := ⟨⟨1, 2, 10, 20⟩, by simp [oneL], .inr ⟨rfl, rfl, rfl⟩⟩
  exact ⟨⟨1, .one a1⟩, ⟨1, .one a2⟩, ⟨1, .one a3⟩, ⟨1, .one a4⟩, ⟨2, (Way.one a1).app (.one a3)⟩, ⟨2, (Way.one a4).app (.one a2)⟩⟩
theorem one_bet {x : RSpan} {c : Int} (h : BetS 3 oneL 0 2 x c) : c = 0 ∧ x = ⟨11, 22⟩ := by
  have hc : edgesC 3 oneL = 0 := by decide
  have pH : ∀ x y w, Arc oneL x y w → potH y - potH x ≤ w := fun x y w hw => by
    rcases one_arc hw with ⟨rfl, rfl, rfl⟩ | ⟨rfl, rfl, rfl⟩ | ⟨rfl, rfl, rfl⟩ | ⟨rfl, rfl, rfl⟩ <;> decide
  have pL : ∀ x y w, Arc oneL x y w → potL y - potL x ≤ w := fun x y w hw => by
    rcases one_arc hw with ⟨rfl, rfl, rfl⟩ | ⟨rfl, rfl, rfl⟩ | ⟨rfl, rfl, rfl⟩ | ⟨rfl, rfl, rfl⟩ <;> decide
  obtain ⟨⟨r1, w1⟩, ⟨r2, w2⟩, ⟨r3, w3⟩, ⟨r4, w4⟩, ⟨r5, w5⟩, ⟨r6, w6⟩⟩ := one_ways
  have told : ∀ {D : Nat → Nat → Int}, Tells (Arc oneL) 3 D (fun a b => decide (D a b < farI)) → ∀ a b, a < 3 → b < 3 → D a b < farI ∧ -22 ≤ D a b ∧ D a b ≤ 22 ∧ Near (Arc oneL) a b (D a b) := fun {D} hD a b ha hb => by
    have hw : ∃ r c, Way (Arc oneL) a b r c ∧ c ≤ 22 := by
      have ha' : a = 0 ∨ a = 1 ∨ a = 2 := by omega
      have hb' : b = 0 ∨ b = 1 ∨ b = 2 := by omega
      rcases ha' with rfl | rfl | rfl <;> rcases hb' with rfl | rfl | rfl
      · exact ⟨0, 0, .start, by omega⟩
      · exact ⟨_, _, w1, by omega⟩
      · exact ⟨_, _, w5, by omega⟩
      · exact ⟨_, _, w2, by omega⟩
      · exact ⟨0, 0, .start, by omega⟩
      · exact ⟨_, _, w3, by omega⟩
      · exact ⟨_, _, w6, by omega⟩
      · exact ⟨_, _, w4, by omega⟩
      · exact ⟨0, 0, .start, by omega⟩
    obtain ⟨r, c, hw, hc⟩ := hw
    rcases hD a b ha hb with ⟨_, q⟩ | ⟨q1, q2⟩
    · exact absurd hw (q _ _)
    · have g1 := q2.2 _ _ hw
      have q3 := q2
      obtain ⟨⟨s, hs⟩, _⟩ := q2
      have g2 := way_pot pH hs
      have g3 : -22 ≤ potH b - potH a := by unfold potH; split <;> split <;> (try split) <;> (try split) <;> omega
      exact ⟨by simpa using q1, by omega, by omega, q3⟩
  unfold BetS at h
  rcases h with ⟨h, _⟩ | ⟨_, h, _⟩ | ⟨_, _, ⟨⟨v, r, c', hv, hc', hw⟩, _⟩ | ⟨_, D, hD, ⟨⟨i, j, hi, hj, hx⟩, _⟩ | ⟨_, ⟨hx, _⟩ | ⟨hx, rfl, hxx⟩⟩⟩⟩
  · exact absurd hc h
  · exact absurd h (by decide)
  · have := way_pot pH hw
    omega
  · exfalso
    refine hx fun _ => ?_
    have b1 := told hD i j hi hj
    have b2 := told hD j i hj hi
    exact ⟨timeB_iff.2 (by omega), timeB_iff.2 (by omega)⟩
  · exact absurd (told hD 0 2 (by omega) (by omega)).1 hx
  · have n1 := (told hD 0 2 (by omega) (by omega)).2.2.2
    have n2 := (told hD 2 0 (by omega) (by omega)).2.2.2
    have m1 : Near (Arc oneL) 0 2 22 := ⟨⟨r5, w5⟩, fun r c hw => by have := way_pot pH hw; have e : potH 2 - potH 0 = 22 := (by decide); omega⟩
    have m2 : Near (Arc oneL) 2 0 (-11) := ⟨⟨r6, w6⟩, fun r c hw => by have := way_pot pL hw; have e : potL 0 - potL 2 = -11 := (by decide); omega⟩
    have e1 := n1.one m1
    have e2 := n2.one m2
    refine ⟨rfl, ?_⟩
    rw [hxx]
    show (⟨-(D 2 0), D 0 2⟩ : RSpan) = _
    rw [e1, e2]
    rfl
end Go.Proofs.YtfjpfkejajgkbaaDoor
