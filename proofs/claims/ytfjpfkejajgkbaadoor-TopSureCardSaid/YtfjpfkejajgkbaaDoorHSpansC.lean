/- Lists of spans: vote.Check and noonref1.Spans, walked. -/
import Derived.Test.YtfjpfkejajgkbaaDoorHG1
import Derived.Test.YtfjpfkejajgkbaaDoorHRef1
namespace Go.Proofs.YtfjpfkejajgkbaaDoor
open Go.RowKit
set_option linter.unusedVariables false
set_option linter.unusedSimpArgs false
def spB (z : RSpan) : Bool := rightB z.lo z.hi
def badS (zs : List RSpan) : Bool := zs.any (fun z => !spB z)
def spansC (zs : List RSpan) : Int := if 40 < zs.length then 4 else if zs.length = 0 then 5 else if badS zs then 1 else 0
theorem badS_yes {zs : List RSpan} {k : Nat} {z : RSpan} (h : zs[k]? = some z) (hz : spB z = false) : badS zs = true := List.any_eq_true.2 ⟨z, List.mem_of_getElem? h, by rw [hz]; rfl⟩
theorem badS_no {zs : List RSpan} (h : ∀ x ∈ zs, spB x = true) : badS zs = false := List.any_eq_false.2 fun x hx => by rw [h x hx]; simp
theorem badS_all {zs : List RSpan} (h : badS zs = false) : ∀ x ∈ zs, spB x = true := fun x hx => by
  unfold badS at h
  rw [List.any_eq_false] at h
  simpa using h x hx
theorem takeS_more {p : RSpan → Prop} {zs : List RSpan} {k : Nat} {z : RSpan} (h : zs[k]? = some z) (h1 : ∀ x ∈ zs.take k, p x) (h2 : p z) : ∀ x ∈ zs.take (k + 1), p x := by
  intro x hx
  rw [List.take_add_one, h] at hx
  rcases List.mem_append.1 hx with hx | hx
  · exact h1 x hx
  · simp at hx; subst hx; exact h2
theorem spansC_cases {zs : List RSpan} {n : Nat} (hz : zs.length = n) : (40 < n ∧ spansC zs = 4) ∨ (¬ 40 < n ∧ n = 0 ∧ spansC zs = 5) ∨ (¬ 40 < n ∧ n ≠ 0 ∧ badS zs = true ∧ spansC zs = 1) ∨ (¬ 40 < n ∧ n ≠ 0 ∧ badS zs = false ∧ spansC zs = 0) := by
  unfold spansC
  rw [hz]
  by_cases h1 : 40 < n
  · exact .inl ⟨h1, if_pos h1⟩
  · by_cases h2 : n = 0
    · exact .inr (.inl ⟨h1, h2, by rw [if_neg h1, if_pos h2]⟩)
    · cases h3 : badS zs
      · exact .inr (.inr (.inr ⟨h1, h2, rfl, by rw [if_neg h1, if_neg h2]; rfl⟩))
      · exact .inr (.inr (.inl ⟨h1, h2, rfl, by rw [if_neg h1, if_neg h2]; rfl⟩))
theorem spansC_0 {zs : List RSpan} (h : spansC zs = 0) : zs.length ≤ 40 ∧ 0 < zs.length ∧ ∀ x ∈ zs, spB x = true := by
  rcases spansC_cases (zs := zs) rfl with ⟨_, h1⟩ | ⟨_, _, h1⟩ | ⟨_, _, _, h1⟩ | ⟨h1, h2, h3, _⟩
  · rw [h] at h1; cases h1
  · rw [h] at h1; cases h1
  · rw [h] at h1; cases h1
  · exact ⟨by omega, by omega, badS_all h3⟩
theorem vote_check_1 (lo hi : Int) (w : World) :
    Calls Tryd.prog 82 #[.agg #[.int .i64 lo, .int .i64 hi]] w fun e w' => e = .returned (.bool (!rightB lo hi)) ∧ Below w.heap.size w w' := by
  go_enter Tryd.func82, Tryd.ntmps82
  go_wp2_with (go_at_call 39; refine (Right_any _ _ _).mono ?_; rintro e w1 ⟨rfl, hb1⟩; obtain ⟨hc1, hf1⟩ := bcell hb1; have hz1 := hb1.size; (try simp at hz1); (try have q1_0_0_0 : w.heap.size < w1.heap.size := by omega); (try have q1_0_0_2 : w.heap.size < w1.heap.size + 1 + 1 := by omega); (try have q1_0_0_3 : w.heap.size < w1.heap.size + 1 + 1 + 1 := by omega); (try have q1_0_1_0 : w.heap.size + 1 < w1.heap.size := by omega); (try have q1_0_1_2 : w.heap.size + 1 < w1.heap.size + 1 + 1 := by omega); (try have q1_0_1_3 : w.heap.size + 1 < w1.heap.size + 1 + 1 + 1 := by omega); (try have q1_0_2_0 : w.heap.size + 1 + 1 < w1.heap.size := by omega); (try have q1_0_2_2 : w.heap.size + 1 + 1 < w1.heap.size + 1 + 1 := by omega); (try have q1_0_2_3 : w.heap.size + 1 + 1 < w1.heap.size + 1 + 1 + 1 := by omega); (try have q1_0_3_0 : w.heap.size + 1 + 1 + 1 < w1.heap.size := by omega); (try have q1_0_3_2 : w.heap.size + 1 + 1 + 1 < w1.heap.size + 1 + 1 := by omega); (try have q1_0_3_3 : w.heap.size + 1 + 1 + 1 < w1.heap.size + 1 + 1 + 1 := by omega))
  go_ret
  exact ⟨rfl, (by repeat (first | with_reducible exact Below.refl _ _ | (with_reducible refine Below.alloc ?_ (by first | omega | (simp; done) | (simp; omega)) _) | (with_reducible refine Below.setCell ?_ (by first | omega | (simp; done) | (simp; omega)) _) | (with_reducible refine Below.drew ?_) | (with_reducible refine below_drewN ?_ _) | (with_reducible assumption) | (with_reducible refine bel_step (by with_reducible assumption) ?_ (by first | omega | (simp; done) | (simp; omega)))))⟩
theorem idx_vote (A : Option Addr) (n c : Nat) (zs : List RSpan) (w : World) (h : IsRecs w RSpan.cells RSpan.ok 2 A n c zs) :
    Calls Tryd.prog 95 #[.slice A n c, .func (.func 82) #[] #[]] w fun e w' => ∃ r : Int, e = .returned (.int .i64 r) ∧ decide (0 ≤ r) = badS zs ∧ Below w.heap.size w w' := by
  obtain ⟨l1, l2, l3, l4, l5⟩ := h
  unfold maxLen at l3
  have L1 := Lib.hid l1
  have L5 := Lib.hid l5
  clear l1 l4 l5
  go_enter Tryd.func95, Tryd.ntmps95
  go_wp2_with fail
  go_loopw [8] (fun kv wr => ∃ k : Nat, kv = .int .i64 k ∧ k ≤ n ∧ (∀ x ∈ zs.take k, spB x = true) ∧ Below w.heap.size w wr) (fun kv _ => n - (intOf kv).toNat)
  case atStart => exact ⟨0, rfl, by omega, fun x hx => by simp at hx, Below.refl _ _⟩
  case round =>
    obtain ⟨k, rfl, hk, hD, hB⟩ := hrel
    have HD := Lib.hid hD
    have HB := Lib.hid hB
    clear hD
    by_cases d1 : k < n
    · obtain ⟨b, off, rfl, hb, hc⟩ := L5.out (by omega)
      obtain ⟨z, hz⟩ : ∃ z, zs[k]? = some z := ⟨_, List.getElem?_eq_getElem (by rw [L1.out]; omega)⟩
      have x0 : wr.cell? ⟨b, off + k * 2, none⟩ = some (.int .i64 z.lo) := (hB.cell (p := ⟨b, off + k * 2, none⟩) hb).trans (hc k z hz 0 _ rfl)
      have x1 : wr.cell? ⟨b, off + k * 2 + 1, none⟩ = some (.int .i64 z.hi) := (hB.cell (p := ⟨b, off + k * 2 + 1, none⟩) hb).trans (hc k z hz 1 _ rfl)
      have HZ := Lib.hid hz
      have C := vote_check_1 z.lo z.hi wr
      clear hc hz hB
      cases e1 : spB z
      · rw [show rightB z.lo z.hi = false from e1] at C
        have HC := Lib.hid C
        have HN := Lib.hid (badS_yes HZ.out e1)
        clear C
        go_wp2_with fail
        refine HC.out.mono ?_
        rintro e w' ⟨rfl, hb'⟩
        have HB2 := Lib.hid (HB.out.trans (hb'.mono HB.out.size))
        clear hb'
        go_wp2_with fail
        go_ret
        exact ⟨k, rfl, by rw [HN.out]; simp, HB2.out⟩
      · rw [show rightB z.lo z.hi = true from e1] at C
        have HC := Lib.hid C
        have HD2 := Lib.hid (takeS_more (p := fun x => spB x = true) HZ.out HD.out e1)
        clear C
        go_wp2_with fail
        refine HC.out.mono ?_
        rintro e w' ⟨rfl, hb'⟩
        have HB2 := Lib.hid (HB.out.trans (hb'.mono HB.out.size))
        clear hb'
        go_wp2_with fail
        go_roundw
        case rel => exact ⟨k + 1, by go_num, by omega, HD2.out, HB2.out⟩
        case measure => simp [intOf]; omega
    · have HN := Lib.hid (badS_no (zs := zs) (by
        have := HD.out
        rwa [List.take_of_length_le (by rw [L1.out]; omega)] at this))
      clear hB
      go_wp2_with fail
      go_ret
      exact ⟨-1, rfl, by rw [HN.out]; rfl, HB.out⟩
theorem has_vote (A : Option Addr) (n c : Nat) (zs : List RSpan) (w : World) (h : IsRecs w RSpan.cells RSpan.ok 2 A n c zs) :
    Calls Tryd.prog 81 #[.slice A n c, .func (.func 82) #[] #[]] w fun e w' => e = .returned (.bool (badS zs)) ∧ Below w.heap.size w w' := by
  have C := Lib.hid (idx_vote A n c zs w h)
  clear h
  go_enter Tryd.func81, Tryd.ntmps81
  go_wp2_with fail
  refine C.out.mono ?_
  rintro e w' ⟨r, rfl, hr, hb⟩
  have HR := Lib.hid hr
  clear hr
  go_wp2_with fail
  go_ret
  exact ⟨ret_bool HR.out, hb⟩
theorem vote_Check (A : Option Addr) (n c : Nat) (zs : List RSpan) (w : World) (h : IsRecs w RSpan.cells RSpan.ok 2 A n c zs) :
    Calls Tryd.prog 57 #[.slice A n c] w fun e w' => e = .returned (errV (spansC zs)) ∧ Below w.heap.size w w' := by
  have C := has_vote A n c zs w h
  have hn := h.2.1
  have hc := h.2.2.1
  unfold maxLen at hc
  rcases spansC_cases h.1 with ⟨d1, hv⟩ | ⟨d1, rfl, hv⟩ | ⟨d1, d2, d3, hv⟩ | ⟨d1, d2, d3, hv⟩
  · have HV := Lib.hid hv
    have k0 : (40 : Int) < (n : Int) := by omega
    clear C hv h
    go_enter Tryd.func57, Tryd.ntmps57
    go_wp2_with fail
    go_ret
    exact ⟨by rw [HV.out]; simp [errV], Below.refl _ _⟩
  · have HV := Lib.hid hv
    clear C hv h
    go_enter Tryd.func57, Tryd.ntmps57
    go_wp2_with fail
    go_ret
    exact ⟨by rw [HV.out]; simp [errV], Below.refl _ _⟩
  all_goals
    rw [d3] at C
    have HC := Lib.hid C
    have HV := Lib.hid hv
    have k0 : ¬ (40 : Int) < (n : Int) := by omega
    clear C hv h d3
    go_enter Tryd.func57, Tryd.ntmps57
    go_wp2_with fail
    refine HC.out.mono ?_
    rintro e w' ⟨rfl, hb⟩
    go_wp2_with fail
    go_ret
    exact ⟨by rw [HV.out]; simp [errV], hb⟩
end Go.Proofs.YtfjpfkejajgkbaaDoor
