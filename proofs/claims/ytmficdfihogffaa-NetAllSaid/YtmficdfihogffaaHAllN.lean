/- A net in which one node asked all others: each two have a bound, and all are wide. No program stands here. -/
import Derived.Test.YtmficdfihogffaaHTruthA
import Derived.Test.YtmficdfihogffaaHNetW
namespace Go.Proofs.Ytmficdfihogffaa
open Go.RowKit
set_option linter.unusedVariables false
set_option linter.unusedSimpArgs false
variable {n : Nat} {ss rs : List Int} {p t : Int} {us : List RLetter} {S S' : Nat → NSt}
/-- node 0 asked those below i; no other one asked. -/
structure StarN (n : Nat) (S : Nat → NSt) (i : Nat) : Prop where
  no : ∀ x, x < n → x ≠ 0 → ∀ y, (S x).f y = none
  yes : ∀ y : Nat, 1 ≤ y → y < i → Known S 0 y
theorem StarN.start (n : Nat) (p : Int) : StarN n (fun i => NSt.start n i p) 1 := ⟨fun _ _ _ _ => rfl, fun y h1 h2 => by omega⟩
theorem StarN.step {i : Nat} {h0 h1 lo hi : Int} (h : StarN n S i) (hi0 : i ≠ 0) : StarN n (updS (updS S i ((S i).heard h1)) 0 (((updS S i ((S i).heard h1)) 0).learn i h0 lo hi)) (i + 1) := by
  refine ⟨fun x hx hx0 y => ?_, fun y h2 h3 => ?_⟩
  · unfold updS
    rw [if_neg hx0]
    by_cases e : x = i
    · rw [if_pos e]
      show (S i).f y = none
      rw [← e]; exact h.no x hx hx0 y
    · rw [if_neg e]; exact h.no x hx hx0 y
  · refine Known.learn ?_
    by_cases e : y = i
    · right; rw [e]
    · left; exact Known.heard (h.yes y h2 (by omega))
theorem TrueN.star_edge (h : TrueN n ss rs p t us S) (hS : StarN n S n) {e : REdge} (he : e ∈ netL (hereAt ss rs t) S n) :
    e.a = 0 ∧ ∃ j : Nat, e.b = j ∧ 1 ≤ j ∧ j < n ∧ e.lo = (spanAt (S 0) (hereAt ss rs t 0) j).lo ∧ e.lo + 1 ≤ e.hi := by
  obtain ⟨i, hi, he⟩ := List.mem_flatMap.1 he
  have hi := List.mem_range.1 hi
  unfold tellE at he
  rw [if_pos (h.tell hi)] at he
  obtain ⟨j, hj, he⟩ := List.mem_flatMap.1 he
  obtain ⟨s1, s2, s3⟩ := h.sN i hi
  have hj' := List.mem_range.1 hj
  rw [s1] at hj'
  clear hj
  have hj : j < n := hj'
  unfold edgeAt at he
  split at he
  · rename_i g
    rw [List.mem_singleton] at he
    subst he
    rw [s2] at g ⊢
    obtain ⟨g1, g2⟩ := g
    unfold hasAt at g1
    cases hf : (S i).f j with
    | none => rw [hf, s2] at g1; simp at g1; exact absurd g1 g2
    | some k =>
      by_cases i0 : i = 0
      · subst i0
        obtain ⟨j', e1, e2, a1, a2, a3, a4⟩ := h.age hi hf
        obtain ⟨k0, k1, k2, k3, k4, k5⟩ := (h.ok 0 hi).kn _ k hf
        have hr := rightB_iff.1 k5
        have hb := h.C.bd hi h.t0 h.t1
        have hh := h.h 0 hi
        have hby := byP_bd (n := hereAt ss rs t 0 - k.at_) (p := 3 * p) (by omega) (show hereAt ss rs t 0 - k.at_ ≤ 2000000000000 by omega) (by have := h.C.p0; omega) (show 3 * p ≤ 3000 by have := h.C.p1; omega)
        refine ⟨rfl, j, rfl, by omega, hj, rfl, ?_⟩
        unfold spanAt
        rw [hf, s3]
        show ageL k p _ + 1 ≤ ageH k p _
        unfold ageL ageH slackD
        omega
      · rw [hS.no i hi i0] at hf; cases hf
  · simp at he
theorem TrueN.star_to (h : TrueN n ss rs p t us S) (hS : StarN n S n) {b : Nat} (hb : b < n) : ∃ r c, Way (Arc (netL (hereAt ss rs t) S n)) 0 b r c := by
  by_cases e : b = 0
  · subst e; exact ⟨0, 0, .start⟩
  · obtain ⟨z, hz, za, zb⟩ := h.edge_known (i := 0) (k := b) (by omega) hb (fun q => e q.symm) (hS.yes b (by omega) hb)
    exact ⟨1, z.hi, .one ⟨z, hz, .inl ⟨za, zb, rfl⟩⟩⟩
theorem TrueN.star_back (h : TrueN n ss rs p t us S) (hS : StarN n S n) {b : Nat} (hb : b < n) : ∃ r c, Way (Arc (netL (hereAt ss rs t) S n)) b 0 r c := by
  by_cases e : b = 0
  · subst e; exact ⟨0, 0, .start⟩
  · obtain ⟨z, hz, za, zb⟩ := h.edge_known (i := 0) (k := b) (by omega) hb (fun q => e q.symm) (hS.yes b (by omega) hb)
    exact ⟨1, -z.lo, .one ⟨z, hz, .inr ⟨zb, za, rfl⟩⟩⟩
theorem TrueN.star_way (h : TrueN n ss rs p t us S) (hS : StarN n S n) {a b : Nat} (ha : a < n) (hb : b < n) : ∃ r c, Way (Arc (netL (hereAt ss rs t) S n)) a b r c := by
  obtain ⟨r, c, w⟩ := h.star_back hS ha
  obtain ⟨r', c', w'⟩ := h.star_to hS hb
  exact ⟨_, _, w.app w'⟩
/-- of one node and itself nothing is told but nothing. -/
theorem off_same {a : Int} {x : RSpan} (hO : OffS n (hereAt ss rs t) S a a x 0) : x = ⟨0, 0⟩ := by
  rcases hO with ⟨_, h0, _⟩ | ⟨_, ⟨h0, h1, _⟩ | ⟨_, hB⟩⟩
  · cases h0
  · exact absurd h1.symm h0
  · obtain ⟨n', a', b', e1, e2, e3, hok⟩ := bet_ok hB
    obtain rfl : a' = b' := by omega
    obtain ⟨l, hh⟩ := x
    have z : Near (Arc (netL (hereAt ss rs t) S n)) a' a' 0 := ⟨⟨0, .start⟩, fun r c w => by
      by_cases g : 0 ≤ c
      · exact g
      · exact absurd ⟨a', r, c, hok.ha, by omega, w⟩ hok.ns⟩
    have h1 := hok.hi.one z
    have h2 := hok.lo.one z
    simp only [] at h1 h2
    subst h1
    obtain rfl : l = 0 := by omega
    rfl
theorem TrueN.times (h : TrueN n ss rs p t us S) (h1 : 1 ≤ n) {D : Nat → Nat → Int} (hD : Tells (Arc (netL (hereAt ss rs t) S n)) n D (fun a b => decide (D a b < farI))) {i j : Nat} (hi : i < n) (hj : j < n) : timeD D i j := by
  intro hf
  have hA : ∀ x y w, Arc (netL (hereAt ss rs t) S n) x y w → x < n ∧ y < n := by
    rintro x y w ⟨e, he, hx⟩
    obtain ⟨i, j, e1, e2, hi, hj, _⟩ := h.edge he
    rcases hx with ⟨q1, q2, _⟩ | ⟨q1, q2, _⟩ <;> omega
  have hW : ∀ x y w, Arc (netL (hereAt ss rs t) S n) x y w → -20000000000 ≤ w ∧ w ≤ 20000000000 := by
    rintro x y w ⟨e, he, hx⟩
    obtain ⟨i, j, e1, e2, hi, hj, _, a1, a2, a3, a4⟩ := h.edge he
    have b1 := h.C.bd hi h.t0 h.t1
    have b2 := h.C.bd hj h.t0 h.t1
    rcases hx with ⟨_, _, q3⟩ | ⟨_, _, q3⟩ <;> omega
  have hns : ¬ Sunk (Arc (netL (hereAt ss rs t) S n)) n := fit_not_sunk (h.fits h1)
  have near : ∀ u v, u < n → v < n → D u v < farI → timeB (D u v) = true ∧ timeB (-(D u v)) = true := by
    intro u v hu hv huv
    rcases hD u v hu hv with ⟨q, _⟩ | ⟨_, ⟨r, hr⟩, hmin⟩
    · have q' : decide (D u v < farI) = false := q
      rw [decide_eq_true huv] at q'; cases q'
    · rcases Way.short hA hu r v _ hr with ⟨r', c', q1, q2, q3⟩ | ⟨v', e', c', q1, q2, q3, q4⟩
      · have := hmin _ _ q3
        have hcost := way_cost hW q3
        have hcost2 := way_cost hW hr
        have hn6 := h.C.n6
        have hr5 : (r' : Int) * 20000000000 ≤ 5 * 20000000000 := Int.mul_le_mul_of_nonneg_right (by omega) (by omega)
        exact ⟨timeB_iff.2 (by omega), timeB_iff.2 (by omega)⟩
      · exact absurd ⟨v', e', c', q1, q3, q4⟩ hns
  have hrev := tells_rev hD hi hj (decide_eq_true hf)
  exact ⟨(near i j hi hj hf).1, (near j i hj hi (of_decide_eq_true hrev)).2⟩
theorem wideRow_pos {F : Nat → Nat → Int} {N i : Nat} (hi : i < N) (hF : ∀ i k, i < N → k < N → 0 ≤ F i k) : ∀ m, i + 1 + m ≤ N → 0 ≤ wideRow F i m
  | 0, _ => by simp [wideRow]
  | m + 1, h => by
    have h1 := wideRow_pos hi hF m (by omega)
    have h2 := hF i (i + 1 + m) hi (by omega)
    show 0 ≤ wideRow F i m + F i (i + 1 + m)
    omega
theorem wideRow_first {F : Nat → Nat → Int} {N : Nat} (hN : 2 ≤ N) (hF : ∀ i k, i < N → k < N → 0 ≤ F i k) (h1 : 1 ≤ F 0 1) : ∀ m, 0 + 1 + (m + 1) ≤ N → 1 ≤ wideRow F 0 (m + 1)
  | 0, _ => by show 1 ≤ wideRow F 0 0 + F 0 1; simp [wideRow]; exact h1
  | m + 1, h => by
    have h2 := wideRow_first hN hF h1 m (by omega)
    have h3 := hF 0 (0 + 1 + (m + 1)) (by omega) (by omega)
    show 1 ≤ wideRow F 0 (m + 1) + F 0 (0 + 1 + (m + 1))
    omega
theorem wideAll_pos {F : Nat → Nat → Int} {N : Nat} (hN : 2 ≤ N) (hF : ∀ i k, i < N → k < N → 0 ≤ F i k) (h1 : 1 ≤ F 0 1) : ∀ i, i + 1 ≤ N → 1 ≤ wideAll F N (i + 1)
  | 0, _ => by
    have := wideRow_first hN hF h1 (N - 2) (by omega)
    show 1 ≤ wideAll F N 0 + wideRow F 0 (N - (0 + 1))
    rw [show N - (0 + 1) = N - 2 + 1 by omega]
    have e : wideAll F N 0 = 0 := rfl
    omega
  | i + 1, h => by
    have h2 := wideAll_pos hN hF h1 i (by omega)
    have h3 := wideRow_pos (show i + 1 < N by omega) hF (N - (i + 1 + 1)) (by omega)
    show 1 ≤ wideAll F N (i + 1) + wideRow F (i + 1) (N - (i + 1 + 1))
    omega
theorem TrueN.star_wide (h : TrueN n ss rs p t us S) (hS : StarN n S n) (h2 : 2 ≤ n) {v c : Int} (hw : WideS n (netL (hereAt ss rs t) S n) v c) : c = 0 ∧ 0 < v := by
  have hns : ¬ Sunk (Arc (netL (hereAt ss rs t) S n)) n := fit_not_sunk (h.fits (by omega))
  rcases hw with ⟨g, _⟩ | ⟨_, D, hD, ⟨_, _, a, b, ha, hb, hno⟩ | ⟨rfl, hT, rfl⟩⟩
  · exact absurd g hns
  · exact absurd (h.times (by omega) hD ha hb) hno
  · refine ⟨rfl, ?_⟩
    have near : ∀ a b, a < n → b < n → D a b < farI ∧ Near (Arc (netL (hereAt ss rs t) S n)) a b (D a b) := fun a b ha hb => by
      obtain ⟨r, c, w⟩ := h.star_way hS ha hb
      rcases hD a b ha hb with ⟨_, q⟩ | ⟨q1, q2⟩
      · exact absurd w (q r c)
      · exact ⟨of_decide_eq_true q1, q2⟩
    have hF : ∀ i k, i < n → k < n → 0 ≤ wideF D i k := fun i k hi hk => by
      unfold wideF
      obtain ⟨g1, ⟨r, w⟩, _⟩ := near i k hi hk
      obtain ⟨_, ⟨r', w'⟩, _⟩ := near k i hk hi
      rw [if_pos g1]
      by_cases g : 0 ≤ D i k + D k i
      · exact g
      · exact absurd ⟨i, _, _, hi, by omega, w.app w'⟩ hns
    have hA : ∀ x y w, Arc (netL (hereAt ss rs t) S n) x y w → (x = 0 ∧ 1 ≤ y ∧ (spanAt (S 0) (hereAt ss rs t 0) y).lo + 1 ≤ w) ∨ (y = 0 ∧ 1 ≤ x ∧ w = -(spanAt (S 0) (hereAt ss rs t 0) x).lo) := by
      rintro x y w ⟨e, he, hx⟩
      obtain ⟨ea, j, eb, j1, j2, el, eh⟩ := h.star_edge hS he
      rcases hx with ⟨q1, q2, q3⟩ | ⟨q1, q2, q3⟩
      · obtain rfl : j = y := by omega
        left; refine ⟨by omega, j1, by omega⟩
      · obtain rfl : j = x := by omega
        right; refine ⟨by omega, j1, by omega⟩
    have h01 : (spanAt (S 0) (hereAt ss rs t 0) 1).lo + 1 ≤ D 0 1 := by
      obtain ⟨_, ⟨r, w⟩, _⟩ := near 0 1 (by omega) (by omega)
      have := way_pot (p := fun i => if i = 0 then 0 else (spanAt (S 0) (hereAt ss rs t 0) i).lo + 1) (fun x y w hw => by
        rcases hA x y w hw with ⟨rfl, q1, q2⟩ | ⟨rfl, q1, q2⟩
        · simp only [if_pos, if_neg (show y ≠ 0 by omega)]; omega
        · simp only [if_pos, if_neg (show x ≠ 0 by omega)]; omega) w
      simpa using this
    have h10 : -(spanAt (S 0) (hereAt ss rs t 0) 1).lo ≤ D 1 0 := by
      obtain ⟨_, ⟨r, w⟩, _⟩ := near 1 0 (by omega) (by omega)
      have := way_pot (p := fun i => if i = 0 then 0 else (spanAt (S 0) (hereAt ss rs t 0) i).lo) (fun x y w hw => by
        rcases hA x y w hw with ⟨rfl, q1, q2⟩ | ⟨rfl, q1, q2⟩
        · simp only [if_pos, if_neg (show y ≠ 0 by omega)]; omega
        · simp only [if_pos, if_neg (show x ≠ 0 by omega)]; omega) w
      simpa using this
    have h1 : 1 ≤ wideF D 0 1 := by
      unfold wideF
      rw [if_pos (near 0 1 (by omega) (by omega)).1]
      omega
    have := wideAll_pos h2 hF h1 (n - 1) (by omega)
    rw [show n - 1 + 1 = n by omega] at this
    omega
/-- the clocks of the law. -/
def tensL (i : Nat) : List Int := (List.range i).map fun (j : Nat) => 10 * (j : Int)
def fivesL (i : Nat) : List Int := (List.range i).map fun (j : Nat) => 5 * (j : Int)
theorem tensL_len (i : Nat) : (tensL i).length = i := by simp [tensL]
theorem fivesL_len (i : Nat) : (fivesL i).length = i := by simp [fivesL]
theorem tensL_succ (i : Nat) : tensL (i + 1) = tensL i ++ [10 * (i : Int)] := by simp [tensL, List.range_succ]
theorem fivesL_succ (i : Nat) : fivesL (i + 1) = fivesL i ++ [5 * (i : Int)] := by simp [fivesL, List.range_succ]
theorem all_newC (h2 : 2 ≤ n) (h6 : n ≤ 6) : newC (tensL n) (fivesL n) 100 = 0 := by
  have : n = 2 ∨ n = 3 ∨ n = 4 ∨ n = 5 ∨ n = 6 := by omega
  rcases this with rfl | rfl | rfl | rfl | rfl <;> decide
theorem tensL_ok {x : Int} (h6 : n ≤ 6) (h : x ∈ tensL n) : i64B x := by
  obtain ⟨j, hj, rfl⟩ := List.mem_map.1 h
  have := List.mem_range.1 hj
  unfold i64B; omega
theorem fivesL_ok {x : Int} (h6 : n ≤ 6) (h : x ∈ fivesL n) : i64B x := by
  obtain ⟨j, hj, rfl⟩ := List.mem_map.1 h
  have := List.mem_range.1 hj
  unfold i64B; omega
end Go.Proofs.Ytmficdfihogffaa
