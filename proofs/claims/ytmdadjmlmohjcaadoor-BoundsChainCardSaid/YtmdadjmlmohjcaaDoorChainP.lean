/- Along a chain bounds add up, in plain words. -/
import Derived.Test.YtmdadjmlmohjcaaDoorBetween
import Derived.Test.YtmdadjmlmohjcaaDoorChain
namespace Go.Proofs.YtmdadjmlmohjcaaDoor
open Go.RowKit
set_option linter.unusedVariables false
set_option linter.unusedSimpArgs false
theorem chain_arc {lo hi : Int} {k x y : Nat} {w : Int} (h : Arc (chainL lo hi k) x y w) : (y = x + 1 ∧ w = hi) ∨ (x = y + 1 ∧ w = -lo) := by
  obtain ⟨e, he, h⟩ := h
  obtain ⟨j, _, rfl⟩ := chainL_mem he
  rcases h with ⟨h1, h2, h3⟩ | ⟨h1, h2, h3⟩ <;> simp only [] at h1 h2 h3 <;> omega
theorem chain_ge {lo hi t : Int} {k : Nat} (h1 : lo ≤ t) (h2 : t ≤ hi) {a b r : Nat} {c : Int} (h : Way (Arc (chainL lo hi k)) a b r c) : t * b - t * a ≤ c := by
  induction h with
  | start => omega
  | @go x y r c w g hw ih =>
    rcases chain_arc hw with ⟨rfl, rfl⟩ | ⟨rfl, rfl⟩
    · have : t * ((x + 1 : Nat) : Int) = t * x + t := by rw [Int.natCast_add, Int.mul_add]; simp
      omega
    · have : t * ((y + 1 : Nat) : Int) = t * y + t := by rw [Int.natCast_add, Int.mul_add]; simp
      omega
theorem chain_up {lo hi : Int} {k : Nat} (a : Nat) : ∀ d, a + d ≤ k → Way (Arc (chainL lo hi k)) a (a + d) d (hi * d)
  | 0, _ => by simpa using Way.start
  | d + 1, h => by
    have g := chain_up (lo := lo) (hi := hi) (k := k) a d (by omega)
    have hw : Arc (chainL lo hi k) (a + d) (a + (d + 1)) hi := ⟨⟨(a + d : Nat), ((a + d : Nat) : Int) + 1, lo, hi⟩, chainL_mk (j := a + d) (by omega), .inl ⟨rfl, by simp only []; omega, rfl⟩⟩
    refine (Way.go g hw).eq rfl ?_
    have : hi * ((d + 1 : Nat) : Int) = hi * d + hi := by rw [Int.natCast_add, Int.mul_add]; simp
    omega
theorem chain_down {lo hi : Int} {k : Nat} (a : Nat) : ∀ d, a + d ≤ k → Way (Arc (chainL lo hi k)) (a + d) a d (-(lo * d))
  | 0, _ => by simpa using Way.start
  | d + 1, h => by
    have g := chain_down (lo := lo) (hi := hi) (k := k) (a + 1) d (by omega)
    have hw : Arc (chainL lo hi k) (a + 1) a (-lo) := ⟨⟨(a : Nat), (a : Int) + 1, lo, hi⟩, chainL_mk (j := a) (by omega), .inr ⟨by simp only []; omega, rfl, rfl⟩⟩
    have g' : Way (Arc (chainL lo hi k)) (a + (d + 1)) (a + 1) d (-(lo * d)) := by
      have e : a + (d + 1) = a + 1 + d := by omega
      rw [e]; exact g
    refine (Way.go g' hw).eq rfl ?_
    have : lo * ((d + 1 : Nat) : Int) = lo * d + lo := by rw [Int.natCast_add, Int.mul_add]; simp
    omega
theorem chain_le {lo hi : Int} {k a b : Nat} (h : lo ≤ hi) (hab : a ≤ b) (hb : b ≤ k) : Near (Arc (chainL lo hi k)) a b (hi * b - hi * a) ∧ Near (Arc (chainL lo hi k)) b a (lo * a - lo * b) := by
  obtain ⟨d, rfl⟩ : ∃ d, b = a + d := ⟨b - a, by omega⟩
  have e1 : hi * ((a + d : Nat) : Int) = hi * a + hi * d := by rw [Int.natCast_add, Int.mul_add]
  have e2 : lo * ((a + d : Nat) : Int) = lo * a + lo * d := by rw [Int.natCast_add, Int.mul_add]
  refine ⟨⟨⟨d, (chain_up a d hb).eq rfl (by omega)⟩, fun r c hw => chain_ge h (by omega) hw⟩, ⟨⟨d, (chain_down a d hb).eq rfl (by omega)⟩, fun r c hw => chain_ge (by omega) h hw⟩⟩
theorem chain_bd {t : Int} {a b : Nat} (h1 : -1000 ≤ t) (h2 : t ≤ 1000) (ha : a ≤ 5) (hb : b ≤ 5) : -5000 ≤ t * b - t * a ∧ t * b - t * a ≤ 5000 := by
  have ha' : a = 0 ∨ a = 1 ∨ a = 2 ∨ a = 3 ∨ a = 4 ∨ a = 5 := by omega
  have hb' : b = 0 ∨ b = 1 ∨ b = 2 ∨ b = 3 ∨ b = 4 ∨ b = 5 := by omega
  rcases ha' with rfl | rfl | rfl | rfl | rfl | rfl <;> rcases hb' with rfl | rfl | rfl | rfl | rfl | rfl <;> simp <;> omega
theorem chain_bet {lo hi : Int} {n : Nat} (h1 : 2 ≤ n) (h2 : n ≤ 6) (l1 : -1000 ≤ lo) (l2 : lo ≤ hi) (l3 : hi ≤ 1000) {a b : Nat} (ha : a < n) (hb : b < n) {x : RSpan} {c : Int} (h : BetS n (chainL lo hi (n - 1)) a b x c) :
    ∃ D : Nat → Nat → Int, Tells (Arc (chainL lo hi (n - 1))) n D (fun a b => decide (D a b < farI)) ∧ c = 0 ∧ x = ⟨-(D b a), D a b⟩ ∧ D a b < farI ∧ D b a < farI := by
  have hc := chainL_c (lo := lo) (hi := hi) (n := n) (k := n - 1) (by omega) h2 (by omega) l2 (by omega) (by omega)
  have hn : (nodeB n a && nodeB n b) = true := by rw [nodeB_iff.2 (by omega), nodeB_iff.2 (by omega)]; rfl
  have near : ∀ a b, a < n → b < n → ∃ v, Near (Arc (chainL lo hi (n - 1))) a b v ∧ -5000 ≤ v ∧ v ≤ 5000 := fun a b ha hb => by
    rcases Nat.le_total a b with q | q
    · exact ⟨_, (chain_le l2 q (by omega)).1, chain_bd (by omega) l3 (by omega) (by omega)⟩
    · exact ⟨_, (chain_le l2 q (by omega)).2, chain_bd l1 (by omega) (by omega) (by omega)⟩
  have told : ∀ {D : Nat → Nat → Int}, Tells (Arc (chainL lo hi (n - 1))) n D (fun a b => decide (D a b < farI)) → ∀ a b, a < n → b < n → D a b < farI ∧ -5000 ≤ D a b ∧ D a b ≤ 5000 := fun {D} hD a b ha hb => by
    obtain ⟨v, hv, v1, v2⟩ := near a b ha hb
    rcases hD a b ha hb with ⟨g1, g2⟩ | ⟨g1, g2⟩
    · obtain ⟨⟨r, hr⟩, _⟩ := hv
      exact absurd hr (g2 _ _)
    · have := g2.one hv
      exact ⟨by simpa using g1, by omega, by omega⟩
  unfold BetS at h
  simp only [Int.toNat_natCast] at h
  rcases h with ⟨h, _⟩ | ⟨_, h, _⟩ | ⟨_, _, ⟨⟨v, r, c', hv, hc', hw⟩, _⟩ | ⟨_, D, hD, ⟨⟨i, j, hi, hj, hx⟩, _⟩ | ⟨_, ⟨hx, _⟩ | ⟨hx, rfl, hxx⟩⟩⟩⟩
  · exact absurd hc h
  · rw [hn] at h; cases h
  · have := chain_ge (Int.le_refl lo) l2 hw
    omega
  · exfalso
    refine hx fun _ => ?_
    have b1 := told hD i j hi hj
    have b2 := told hD j i hj hi
    exact ⟨timeB_iff.2 (by omega), timeB_iff.2 (by omega)⟩
  · exact absurd (told hD a b ha hb).1 hx
  · exact ⟨D, hD, rfl, hxx, (told hD a b ha hb).1, (told hD b a hb ha).1⟩
theorem chain_ends {lo hi : Int} {n : Nat} (h1 : 2 ≤ n) (l2 : lo ≤ hi) {D : Nat → Nat → Int} (hD : Tells (Arc (chainL lo hi (n - 1))) n D (fun a b => decide (D a b < farI))) :
    D 0 (n - 1) = ((n : Int) - 1) * hi ∧ D (n - 1) 0 = -(((n : Int) - 1) * lo) := by
  obtain ⟨g1, g2⟩ := chain_le (lo := lo) (hi := hi) (k := n - 1) (a := 0) (b := n - 1) l2 (by omega) (by omega)
  have e : ((n - 1 : Nat) : Int) = (n : Int) - 1 := by omega
  have c1 := Int.mul_comm hi ((n : Int) - 1)
  have c2 := Int.mul_comm lo ((n : Int) - 1)
  rw [e] at g1 g2
  constructor
  · rcases hD 0 (n - 1) (by omega) (by omega) with ⟨_, q⟩ | ⟨_, q⟩
    · obtain ⟨⟨r, hr⟩, _⟩ := g1
      exact absurd hr (q _ _)
    · have := q.one g1
      simp at this; omega
  · rcases hD (n - 1) 0 (by omega) (by omega) with ⟨_, q⟩ | ⟨_, q⟩
    · obtain ⟨⟨r, hr⟩, _⟩ := g2
      exact absurd hr (q _ _)
    · have := q.one g2
      simp at this; omega
end Go.Proofs.YtmdadjmlmohjcaaDoor
