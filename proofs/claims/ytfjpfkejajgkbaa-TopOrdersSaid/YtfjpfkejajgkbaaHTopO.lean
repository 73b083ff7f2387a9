/- Events at true clocks, told as spans of one clock's time: they could be in the order in which they were. No program stands here. -/
import Derived.Test.YtfjpfkejajgkbaaHTopX
import Derived.Test.YtfjpfkejajgkbaaHOrdF
namespace Go.Proofs.Ytfjpfkejajgkbaa
open Go.RowKit
set_option linter.unusedVariables false
set_option linter.unusedSimpArgs false
theorem TrueN.offset_bd {n : Nat} {ss rs : List Int} {p t : Int} {us : List RLetter} {S : Nat → NSt} (h : TrueN n ss rs p t us S) {a b : Int} {x : RSpan} (hO : OffS n (hereAt ss rs t) S a b x 0) : -100000000000 ≤ x.lo ∧ x.hi ≤ 100000000000 := by
  rcases hO with ⟨_, h0, _⟩ | ⟨_, ⟨h0, h1, _⟩ | ⟨_, hB⟩⟩
  · cases h0
  · exact absurd h1.symm h0
  · obtain ⟨n', a', b', e1, rfl, rfl, hok⟩ := bet_ok hB
    obtain rfl : n = n' := by omega
    have hA : ∀ x y w, Arc (netL (hereAt ss rs t) S n) x y w → x < n ∧ y < n := by
      rintro x y w ⟨e, he, hx⟩
      obtain ⟨i, j, e1, e2, hi, hj, _⟩ := h.edge he
      rcases hx with ⟨q1, q2, _⟩ | ⟨q1, q2, _⟩ <;> omega
    have hW : ∀ x y w, Arc (netL (hereAt ss rs t) S n) x y w → -20000000000 ≤ w ∧ w ≤ 20000000000 := by
      rintro x y w ⟨e, he, hx⟩
      obtain ⟨i, j, e1, e2, hi, hj, _, a1, a2, a3, a4⟩ := h.edge he
      have b1 := h.C.bd hi h.t0 h.t1
      have b2 := h.C.bd hj h.t0 h.t1
      rcases hx with ⟨_, _, q3⟩ | ⟨_, _, q3⟩ <;> omega
    have near : ∀ u v c, u < n → Near (Arc (netL (hereAt ss rs t) S n)) u v c → c ≤ 100000000000 := by
      rintro u v c hu ⟨⟨r, hr⟩, hmin⟩
      rcases Way.short hA hu r v _ hr with ⟨r', c', q1, q2, q3⟩ | ⟨v', e', c', q1, q2, q3, q4⟩
      · have hcost := way_cost hW q3
        have hn6 := h.C.n6
        have hr5 : (r' : Int) * 20000000000 ≤ 5 * 20000000000 := Int.mul_le_mul_of_nonneg_right (by omega) (by omega)
        have := hmin _ _ q3
        omega
      · exact absurd ⟨v', e', c', q1, q3, q4⟩ hok.ns
    have h1 := near _ _ _ hok.ha hok.hi
    have h2 := near _ _ _ hok.hb hok.lo
    omega
theorem nact_time {n : Nat} {ss rs : List Int} {t t' : Int} {us us' : List RLetter} {S S' : Nat → NSt} {A : RAct} {c : Int} (h : NAct n ss rs t us S A c t' us' S') : t ≤ t' := by
  have w : ∀ {A : RAct} {c : Int} {got : Option RLetter} {t' : Int} {us' : List RLetter}, WAct n ss rs t us A c got t' us' → t ≤ t' := by
    intro A c got t' us' h
    cases h <;> omega
  cases h <;> exact w (by assumption)
/-- events as they were. -/
structure EvOk (k : Nat) (m : Int) (E : List REvent) : Prop where
  len : E.length ≤ 12
  r : ∀ e ∈ E, evR e = true ∧ 0 ≤ e.id ∧ e.id < k
  up : E.Pairwise fun a b => a.id < b.id
  T : ∃ T : List Int, T.length = E.length ∧ T.Pairwise (fun a b => a ≤ b) ∧ (∀ x ∈ T, x ≤ m) ∧ ∀ (i : Nat) (e : REvent) (x : Int), E[i]? = some e → T[i]? = some x → e.lo ≤ x ∧ x ≤ e.hi
theorem EvOk.nil (k : Nat) (m : Int) : EvOk k m [] := ⟨by simp, by simp, List.Pairwise.nil, [], rfl, List.Pairwise.nil, by simp, by simp⟩
theorem EvOk.mono {k : Nat} {m m' : Int} {E : List REvent} (h : EvOk k m E) (hm : m ≤ m') : EvOk (k + 1) m' E := by
  obtain ⟨T, t1, t2, t3, t4⟩ := h.T
  exact ⟨h.len, fun e he => by have := h.r e he; exact ⟨this.1, this.2.1, by omega⟩, h.up, T, t1, t2, fun x hx => by have := t3 x hx; omega, t4⟩
theorem EvOk.snoc {k : Nat} {m x lo hi : Int} {E : List REvent} (h : EvOk k m E) (hl : E.length ≠ 12) (hm : m ≤ x) (hr : rightB lo hi = true) (h1 : lo ≤ x) (h2 : x ≤ hi) : EvOk (k + 1) x (E ++ [⟨(k : Int), lo, hi⟩]) := by
  obtain ⟨T, t1, t2, t3, t4⟩ := h.T
  have hlen := h.len
  refine ⟨by rw [List.length_append]; simp; omega, fun e he => ?_, ?_, T ++ [x], by simp [t1], ?_, fun y hy => ?_, fun i e y he hy => ?_⟩
  · rcases List.mem_append.1 he with he | he
    · have := h.r e he; exact ⟨this.1, this.2.1, by omega⟩
    · rw [List.mem_singleton] at he; subst he
      exact ⟨hr, by simp only []; omega, by simp only []; omega⟩
  · rw [List.pairwise_append]
    refine ⟨h.up, List.pairwise_singleton _ _, fun a ha b hb => ?_⟩
    rw [List.mem_singleton] at hb; subst hb
    exact (h.r a ha).2.2
  · rw [List.pairwise_append]
    refine ⟨t2, List.pairwise_singleton _ _, fun a ha b hb => ?_⟩
    rw [List.mem_singleton] at hb; subst hb
    have := t3 a ha
    omega
  · rcases List.mem_append.1 hy with hy | hy
    · have := t3 y hy; omega
    · rw [List.mem_singleton] at hy; omega
  · by_cases c : i < E.length
    · rw [List.getElem?_append_left c] at he
      rw [List.getElem?_append_left (by omega)] at hy
      exact t4 i e y he hy
    · rw [List.getElem?_append_right (by omega)] at he
      rw [List.getElem?_append_right (by omega), t1] at hy
      have hi0 : i - E.length = 0 := by
        have := (List.getElem?_eq_some_iff.1 he).1
        simp at this; omega
      rw [hi0] at he hy
      simp at he hy
      subst he; subst hy
      exact ⟨h1, h2⟩
theorem EvOk.evC {k : Nat} {m : Int} {E : List REvent} (h : EvOk k m E) : evC E = 0 := by
  have hlen := h.len
  refine evC_ok rfl (by omega) ?_
  have : ∀ n, n ≤ E.length → evFirst E n = 0 := by
    intro n
    induction n with
    | zero => intro _; rfl
    | succ n ih =>
      intro hn
      refine ev_next (ih (by omega)) ?_
      have hg : E[n]? = some E[n] := List.getElem?_eq_getElem (by omega)
      unfold evBad
      rw [getD_of hg, if_pos (h.r _ (List.getElem_mem _)).1, if_neg]
      unfold hasId
      rw [List.any_eq_true]
      rintro ⟨x, hx, he⟩
      have he' : x.id = (E[n]).id := by simpa using he
      obtain ⟨i, hi⟩ := List.mem_iff_getElem?.1 hx
      rw [List.getElem?_take] at hi
      split at hi
      · rename_i hin
        have hgi := List.getElem?_eq_some_iff.1 hi
        have := List.pairwise_iff_getElem.1 h.up i n hgi.1 (by omega) hin
        rw [hgi.2] at this
        omega
      · cases hi
  exact this _ (Nat.le_refl _)
theorem EvOk.ready {k : Nat} {m : Int} {E : List REvent} (h : EvOk k m E) : readyC E (iotaL E.length) = 0 := by
  unfold readyC
  rw [if_pos h.evC, if_pos]
  rw [eachB_iff]
  exact ⟨iotaL_len _, fun x hx => by have := iotaL_mem.1 hx; omega, iotaL_nodup _⟩
theorem EvOk.could {k : Nat} {m : Int} {E : List REvent} (h : EvOk k m E) : couldB E (iotaL E.length) = true := by
  rw [couldB_iff, iotaL_len]
  intro i hi
  obtain ⟨T, t1, t2, t3, t4⟩ := h.T
  have at_ : ∀ j, j < E.length → evAt E (iotaL E.length) j = E.getD j default := by
    intro j hj
    unfold evAt
    rw [show (iotaL E.length).getD j 0 = (j : Int) by rw [List.getD_eq_getElem?_getD, iotaL_get hj]; rfl]
    simp
  obtain ⟨_, j, hj, he⟩ := tmAt_max E (iotaL E.length) i
  rw [he, at_ j (by omega), at_ i hi]
  have gi : E[i]? = some E[i] := List.getElem?_eq_getElem hi
  have gj : E[j]? = some (E[j]'(by omega)) := List.getElem?_eq_getElem (by omega)
  have ti : T[i]? = some (T[i]'(by omega)) := List.getElem?_eq_getElem (by omega)
  have tj : T[j]? = some (T[j]'(by omega)) := List.getElem?_eq_getElem (by omega)
  rw [getD_of gi, getD_of gj]
  have a1 := (t4 i _ _ gi ti).2
  have a2 := (t4 j _ _ gj tj).1
  by_cases c : j = i
  · subst c; omega
  · have := List.pairwise_iff_getElem.1 t2 j i (by omega) (by omega) (by omega)
    omega
end Go.Proofs.Ytfjpfkejajgkbaa
