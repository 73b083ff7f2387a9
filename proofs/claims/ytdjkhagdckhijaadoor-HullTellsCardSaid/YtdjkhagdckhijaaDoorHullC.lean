/- Lists of points: hull.Check and noonref1.Points, walked. -/
import Derived.Test.YtdjkhagdckhijaaDoorOwn
import Derived.Test.YtdjkhagdckhijaaDoorRef1
namespace Go.Proofs.YtdjkhagdckhijaaDoor
open Go.RowKit
set_option linter.unusedVariables false
set_option linter.unusedSimpArgs false
def bdB (n : Int) : Bool := decide (-1000000 ≤ n) && decide (n ≤ 1000000)
theorem bdB_iff {n : Int} : bdB n = true ↔ -1000000 ≤ n ∧ n ≤ 1000000 := by unfold bdB; simp
def ptB (z : RPoint) : Bool := bdB z.x && bdB z.y
theorem ptB_iff {z : RPoint} : ptB z = true ↔ (-1000000 ≤ z.x ∧ z.x ≤ 1000000) ∧ (-1000000 ≤ z.y ∧ z.y ≤ 1000000) := by unfold ptB; rw [Bool.and_eq_true, bdB_iff, bdB_iff]
def badP (zs : List RPoint) : Bool := zs.any (fun z => !ptB z)
def ptsC (zs : List RPoint) : Int := if 60 < zs.length then 4 else if badP zs then 1 else 0
theorem badP_yes {zs : List RPoint} {k : Nat} {z : RPoint} (h : zs[k]? = some z) (hz : ptB z = false) : badP zs = true := List.any_eq_true.2 ⟨z, List.mem_of_getElem? h, by rw [hz]; rfl⟩
theorem badP_no {zs : List RPoint} (h : ∀ x ∈ zs, ptB x = true) : badP zs = false := List.any_eq_false.2 fun x hx => by rw [h x hx]; simp
theorem badP_all {zs : List RPoint} (h : badP zs = false) : ∀ x ∈ zs, ptB x = true := fun x hx => by
  unfold badP at h
  rw [List.any_eq_false] at h
  simpa using h x hx
theorem takeP_more {p : RPoint → Prop} {zs : List RPoint} {k : Nat} {z : RPoint} (h : zs[k]? = some z) (h1 : ∀ x ∈ zs.take k, p x) (h2 : p z) : ∀ x ∈ zs.take (k + 1), p x := by
  intro x hx
  rw [List.take_add_one, h] at hx
  rcases List.mem_append.1 hx with hx | hx
  · exact h1 x hx
  · simp at hx; subst hx; exact h2
theorem ptsC_cases {zs : List RPoint} {n : Nat} (hz : zs.length = n) : (60 < n ∧ ptsC zs = 4) ∨ (¬ 60 < n ∧ badP zs = true ∧ ptsC zs = 1) ∨ (¬ 60 < n ∧ badP zs = false ∧ ptsC zs = 0) := by
  unfold ptsC
  rw [hz]
  by_cases h1 : 60 < n
  · exact .inl ⟨h1, if_pos h1⟩
  · cases h3 : badP zs
    · exact .inr (.inr ⟨h1, rfl, by rw [if_neg h1]; rfl⟩)
    · exact .inr (.inl ⟨h1, rfl, by rw [if_neg h1]; rfl⟩)
theorem ptsC_0 {zs : List RPoint} (h : ptsC zs = 0) : zs.length ≤ 60 ∧ ∀ x ∈ zs, ptB x = true := by
  rcases ptsC_cases (zs := zs) rfl with ⟨_, h1⟩ | ⟨_, _, h1⟩ | ⟨h1, h3, _⟩
  · rw [h] at h1; cases h1
  · rw [h] at h1; cases h1
  · exact ⟨by omega, badP_all h3⟩
theorem hull_within (n : Int) (w : World) : Calls Tryd.prog 22 #[.int .i64 n] w fun e w' => e = .returned (.bool (bdB n)) ∧ w = w' := by
  go_enter Tryd.func22, Tryd.ntmps22
  go_wp2
  all_goals (go_ret; exact ⟨ret_bool (by simp [bdB]; try omega), rfl⟩)
theorem hull_check_1 (x y : Int) (w : World) :
    Calls Tryd.prog 21 #[.agg #[.int .i64 x, .int .i64 y]] w fun e w' => e = .returned (.bool (!(bdB x && bdB y))) ∧ Below w.heap.size w w' := by
  have C1 := Lib.hid (fun W => hull_within x W)
  have C2 := Lib.hid (fun W => hull_within y W)
  obtain ⟨p, hp⟩ : ∃ p, bdB x = p := ⟨_, rfl⟩
  obtain ⟨q, hq⟩ : ∃ q, bdB y = q := ⟨_, rfl⟩
  rw [hp] at C1 ⊢
  rw [hq] at C2 ⊢
  clear hp hq
  cases p
  · go_enter Tryd.func21, Tryd.ntmps21
    go_wp2_with fail
    refine (C1.out _).mono ?_
    rintro e w' ⟨rfl, rfl⟩
    go_wp2_with fail
    go_ret
    exact ⟨rfl, (by repeat (first | with_reducible exact Below.refl _ _ | (with_reducible refine Below.alloc ?_ (by first | omega | (simp; done) | (simp; omega)) _) | (with_reducible refine Below.setCell ?_ (by first | omega | (simp; done) | (simp; omega)) _) | (with_reducible refine Below.drew ?_) | (with_reducible refine below_drewN ?_ _) | (with_reducible assumption) | (with_reducible refine bel_step (by with_reducible assumption) ?_ (by first | omega | (simp; done) | (simp; omega)))))⟩
  · go_enter Tryd.func21, Tryd.ntmps21
    go_wp2_with fail
    refine (C1.out _).mono ?_
    rintro e w' ⟨rfl, rfl⟩
    go_wp2_with fail
    refine (C2.out _).mono ?_
    rintro e w' ⟨rfl, rfl⟩
    go_wp2_with fail
    go_ret
    exact ⟨by cases q <;> rfl, (by repeat (first | with_reducible exact Below.refl _ _ | (with_reducible refine Below.alloc ?_ (by first | omega | (simp; done) | (simp; omega)) _) | (with_reducible refine Below.setCell ?_ (by first | omega | (simp; done) | (simp; omega)) _) | (with_reducible refine Below.drew ?_) | (with_reducible refine below_drewN ?_ _) | (with_reducible assumption) | (with_reducible refine bel_step (by with_reducible assumption) ?_ (by first | omega | (simp; done) | (simp; omega)))))⟩
theorem idx_hull (A : Option Addr) (n c : Nat) (zs : List RPoint) (w : World) (h : IsRecs w RPoint.cells RPoint.ok 2 A n c zs) :
    Calls Tryd.prog 34 #[.slice A n c, .func (.func 21) #[] #[]] w fun e w' => ∃ r : Int, e = .returned (.int .i64 r) ∧ decide (0 ≤ r) = badP zs ∧ Below w.heap.size w w' := by
  obtain ⟨l1, l2, l3, l4, l5⟩ := h
  unfold maxLen at l3
  have L1 := Lib.hid l1
  have L5 := Lib.hid l5
  clear l1 l4 l5
  go_enter Tryd.func34, Tryd.ntmps34
  go_wp2_with fail
  go_loopw [8] (fun kv wr => ∃ k : Nat, kv = .int .i64 k ∧ k ≤ n ∧ (∀ x ∈ zs.take k, ptB x = true) ∧ Below w.heap.size w wr) (fun kv _ => n - (intOf kv).toNat)
  case atStart => exact ⟨0, rfl, by omega, fun x hx => by simp at hx, Below.refl _ _⟩
  case round =>
    obtain ⟨k, rfl, hk, hD, hB⟩ := hrel
    have HD := Lib.hid hD
    have HB := Lib.hid hB
    clear hD
    by_cases d1 : k < n
    · obtain ⟨b, off, rfl, hb, hc⟩ := L5.out (by omega)
      obtain ⟨z, hz⟩ : ∃ z, zs[k]? = some z := ⟨_, List.getElem?_eq_getElem (by rw [L1.out]; omega)⟩
      have x0 : wr.cell? ⟨b, off + k * 2, none⟩ = some (.int .i64 z.x) := (hB.cell (p := ⟨b, off + k * 2, none⟩) hb).trans (hc k z hz 0 _ rfl)
      have x1 : wr.cell? ⟨b, off + k * 2 + 1, none⟩ = some (.int .i64 z.y) := (hB.cell (p := ⟨b, off + k * 2 + 1, none⟩) hb).trans (hc k z hz 1 _ rfl)
      have HZ := Lib.hid hz
      have C := hull_check_1 z.x z.y wr
      clear hc hz hB
      cases e1 : ptB z
      · rw [show (bdB z.x && bdB z.y) = false from e1] at C
        have HC := Lib.hid C
        have HN := Lib.hid (badP_yes HZ.out e1)
        clear C
        go_wp2_with fail
        refine HC.out.mono ?_
        rintro e w' ⟨rfl, hb'⟩
        have HB2 := Lib.hid (HB.out.trans (hb'.mono HB.out.size))
        clear hb'
        go_wp2_with fail
        go_ret
        exact ⟨k, rfl, by rw [HN.out]; simp, HB2.out⟩
      · rw [show (bdB z.x && bdB z.y) = true from e1] at C
        have HC := Lib.hid C
        have HD2 := Lib.hid (takeP_more (p := fun x => ptB x = true) HZ.out HD.out e1)
        clear C
        go_wp2_with fail
        refine HC.out.mono ?_
        rintro e w' ⟨rfl, hb'⟩
        have HB2 := Lib.hid (HB.out.trans (hb'.mono HB.out.size))
        clear hb'
        go_wp2_with fail
        go_roundw
        case rel => exact ⟨k + 1, by go_num, by omega, HD2.out, HB2.out⟩
        case measure => simp [intOf]; omega
    · have HN := Lib.hid (badP_no (zs := zs) (by
        have := HD.out
        rwa [List.take_of_length_le (by rw [L1.out]; omega)] at this))
      clear hB
      go_wp2_with fail
      go_ret
      exact ⟨-1, rfl, by rw [HN.out]; rfl, HB.out⟩
theorem has_hull (A : Option Addr) (n c : Nat) (zs : List RPoint) (w : World) (h : IsRecs w RPoint.cells RPoint.ok 2 A n c zs) :
    Calls Tryd.prog 20 #[.slice A n c, .func (.func 21) #[] #[]] w fun e w' => e = .returned (.bool (badP zs)) ∧ Below w.heap.size w w' := by
  have C := Lib.hid (idx_hull A n c zs w h)
  clear h
  go_enter Tryd.func20, Tryd.ntmps20
  go_wp2_with fail
  refine C.out.mono ?_
  rintro e w' ⟨r, rfl, hr, hb⟩
  have HR := Lib.hid hr
  clear hr
  go_wp2_with fail
  go_ret
  exact ⟨ret_bool HR.out, hb⟩
theorem hull_Check (A : Option Addr) (n c : Nat) (zs : List RPoint) (w : World) (h : IsRecs w RPoint.cells RPoint.ok 2 A n c zs) :
    Calls Tryd.prog 10 #[.slice A n c] w fun e w' => e = .returned (errV (ptsC zs)) ∧ Below w.heap.size w w' := by
  have C := has_hull A n c zs w h
  have hn := h.2.1
  have hc := h.2.2.1
  unfold maxLen at hc
  rcases ptsC_cases h.1 with ⟨d1, hv⟩ | ⟨d1, d3, hv⟩ | ⟨d1, d3, hv⟩
  · have HV := Lib.hid hv
    have k0 : (60 : Int) < (n : Int) := by omega
    clear C hv h
    go_enter Tryd.func10, Tryd.ntmps10
    go_wp2_with fail
    go_ret
    exact ⟨by rw [HV.out]; simp [errV], Below.refl _ _⟩
  all_goals
    rw [d3] at C
    have HC := Lib.hid C
    have HV := Lib.hid hv
    have k0 : ¬ (60 : Int) < (n : Int) := by omega
    clear C hv h d3
    go_enter Tryd.func10, Tryd.ntmps10
    go_wp2_with fail
    refine HC.out.mono ?_
    rintro e w' ⟨rfl, hb⟩
    go_wp2_with fail
    go_ret
    exact ⟨by rw [HV.out]; simp [errV], hb⟩
end Go.Proofs.YtdjkhagdckhijaaDoor
