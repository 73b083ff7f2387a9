/- What a session knows behind a probe that came back. No program stands here. -/
import Derived.Test.YtldlandcjegikaaGreatDoorHK9
namespace Go.Proofs.YtldlandcjegikaaGreatDoor
open Go.RowKit Go.Lib
set_option linter.unusedVariables false
set_option linter.unusedSimpArgs false
theorem lines_outL : ∀ ls : List (List UInt8), (∀ l ∈ ls, (10 : UInt8) ∉ l) → linesOf (outL ls) = ls := by
  intro ls
  induction ls with
  | nil => intro _; rfl
  | cons l ls ih =>
    intro h
    have e : outL (l :: ls) = l ++ 10 :: outL ls := by simp [outL]
    rw [e, linesOf_cons (h l (List.mem_cons_self ..)), ih (fun x hx => h x (List.mem_cons_of_mem _ hx))]
theorem pieces_outL : ∀ ls : List (List UInt8), (∀ l ∈ ls, (10 : UInt8) ∉ l) → piecesL 10 (outL ls) = ls ++ [[]] := by
  intro ls
  induction ls with
  | nil => intro _; rfl
  | cons l ls ih =>
    intro h
    have e : outL (l :: ls) = l ++ 10 :: outL ls := by simp [outL]
    rw [e, piecesL_cons (h l (List.mem_cons_self ..)), ih (fun x hx => h x (List.mem_cons_of_mem _ hx))]
    rfl
theorem Trace.last {t t2 : Int} {us us2 : List RLetter} {S S2 : Nat → NSt} {ls os : List (List UInt8)} {l : List UInt8} (h : Trace t us S (ls ++ [l]) os t2 us2 S2) : ∃ os' o t' us' S', os = os' ++ [o] ∧ Trace t us S ls os' t' us' S' ∧ Ans t' us' S' (cmdOf l) o t2 us2 S2 := by
  generalize e : ls ++ [l] = L at h
  cases h with
  | nil => simp at e
  | snoc g a =>
    obtain ⟨e1, e2⟩ := List.append_inj' e rfl
    obtain rfl := List.cons.inj e2 |>.1
    subst e1
    exact ⟨_, _, _, _, _, rfl, g, a⟩
def lnAsk : List UInt8 := [97, 115, 107, 32, 48, 32, 49]
def lnDel : List UInt8 := [100, 101, 108, 105, 118, 101, 114, 32, 48]
def lnGo (n : Int) : List UInt8 := wGo ++ 32 :: itoa n
def lnS0 : List UInt8 := [115, 104, 111, 119, 32, 48]
def lnS1 : List UInt8 := [115, 104, 111, 119, 32, 49]
def lnOff : List UInt8 := [111, 102, 102, 115, 101, 116, 32, 48, 32, 49]
def knowL (A B C : Int) : List (List UInt8) := [lnAsk, lnGo A, lnDel, lnGo B, lnDel, lnGo C, lnS0, lnS1, lnOff]
theorem lnGo_no {n : Int} (h0 : 0 ≤ n) : (10 : UInt8) ∉ lnGo n := by
  unfold lnGo
  have h1 : (10 : UInt8) ∉ itoa n := itoa_no h0 (by decide)
  have h2 : (10 : UInt8) ∉ wGo := by decide
  simp [h1, h2]
theorem knowL_no {A B C : Int} (hA : 0 ≤ A) (hB : 0 ≤ B) (hC : 0 ≤ C) : ∀ l ∈ knowL A B C, (10 : UInt8) ∉ l := by
  have h1 : (10 : UInt8) ∉ lnAsk := by decide
  have h2 : (10 : UInt8) ∉ lnDel := by decide
  have h3 : (10 : UInt8) ∉ lnS0 := by decide
  have h4 : (10 : UInt8) ∉ lnS1 := by decide
  have h5 : (10 : UInt8) ∉ lnOff := by decide
  intro l hl
  simp only [knowL, List.mem_cons, List.not_mem_nil, or_false] at hl
  rcases hl with rfl | rfl | rfl | rfl | rfl | rfl | rfl | rfl | rfl
  · exact h1
  · exact lnGo_no hA
  · exact h2
  · exact lnGo_no hB
  · exact h2
  · exact lnGo_no hC
  · exact h3
  · exact h4
  · exact h5
theorem itoa_no10 (n : Int) : (10 : UInt8) ∉ itoa n := by
  by_cases h0 : 0 ≤ n
  · exact itoa_no h0 (by decide)
  · unfold itoa
    rw [if_pos (by omega)]
    intro h
    rcases List.mem_cons.1 h with h | h
    · cases h
    · have := digits_mem _ _ h
      have e : (10 : UInt8).toNat = 10 := rfl
      omega
def okB : List UInt8 := [111, 107]
theorem knows_out {A B C : Int} (hA : 0 ≤ A) (hA1 : A ≤ 999999) (hB : 0 ≤ B) (hB1 : B ≤ 999999) (hC : 0 ≤ C) (hC1 : C ≤ 999999) {os : List (List UInt8)} {t : Int} {us : List RLetter} {S : Nat → NSt}
    (h : Trace 0 [] (fun i => NSt.start 3 i 100) (knowL A B C) os t us S) : ∃ x y lo hi : Int, os = [okB, okB, okB, okB, okB, okB, itoa x, itoa y, printL lo hi] ∧ rightB lo hi = true ∧ hasB lo hi (y - x) = true ∧ (0 ≤ x ∧ x ≤ 1002000000) ∧ (0 ≤ y ∧ y ≤ 1002000000) := by
  have c1 : cmdOf lnAsk = .act 2 0 1 := by
    have := cmd_two (x := wAsk) (by decide) (k := 2) (by decide) (n := 0) (m := 1) (by decide) (by decide) (by decide) (by decide) (by decide)
    rw [itoa_0, itoa_1] at this
    exact this
  have c2 : ∀ n : Int, 0 ≤ n → n ≤ 999999 → cmdOf (lnGo n) = .act 1 n 0 := fun n h0 h1 => cmd_one (x := wGo) (by decide) (k := 1) (by decide) (n := n) h0 (by omega) (by decide)
  have c3 : cmdOf lnDel = .act 3 0 0 := by
    have := cmd_one (x := wDeliver) (by decide) (k := 3) (by decide) (n := 0) (by decide) (by decide) (by decide)
    rw [itoa_0] at this
    exact this
  have c4 : cmdOf lnS0 = .show 0 := by
    have := cmd_one (x := wShow) (by decide) (k := 6) (by decide) (n := 0) (by decide) (by decide) (by decide)
    rw [itoa_0] at this
    exact this
  have c5 : cmdOf lnS1 = .show 1 := by
    have := cmd_one (x := wShow) (by decide) (k := 6) (by decide) (n := 1) (by decide) (by decide) (by decide)
    rw [itoa_1] at this
    exact this
  have c6 : cmdOf lnOff = .offset 0 1 := by
    have := cmd_two (x := wOffset) (by decide) (k := 8) (by decide) (n := 0) (m := 1) (by decide) (by decide) (by decide) (by decide) (by decide)
    rw [itoa_0, itoa_1] at this
    exact this
  have ls : ssR.length = 3 := rfl
  have lr : rsR.length = 3 := rfl
  obtain ⟨S0, hS0⟩ : ∃ S0 : Nat → NSt, (fun i => NSt.start 3 i 100) = S0 := ⟨_, rfl⟩
  have T0 : TrueR 0 [] S0 := by rw [← hS0]; exact TrueR.start
  rw [hS0] at h
  have ok : ∀ {t t' : Int} {us us' : List RLetter} {S S' : Nat → NSt} {C : Cmd}, LineA t us S C [111, 107] 0 t' us' S' → Ans t us S C okB t' us' S' := fun g => .of _ _ 0 _ _ _ g
  have n1 : NAct 3 ssR rsR 0 [] S0 ⟨2, 0, 1⟩ 0 0 [⟨0, 1, false, 0, 0, hereAt ssR rsR 0 0⟩] S0 := ask_act (i := 0) (k := 1) ls lr (by decide) (by decide) (by decide)
  have a1 : Ans 0 [] S0 (cmdOf lnAsk) okB 0 [⟨0, 1, false, 0, 0, hereAt ssR rsR 0 0⟩] S0 := by rw [c1]; exact ok (.act _ _ _ _ _ _ _ n1)
  have T1 := a1.true T0
  have n2 : NAct 3 ssR rsR 0 [⟨0, 1, false, 0, 0, hereAt ssR rsR 0 0⟩] S0 ⟨1, A, 0⟩ 0 (0 + A) [⟨0, 1, false, 0, 0, hereAt ssR rsR 0 0⟩] S0 := go_act hA (by omega) (by omega)
  have a2 : Ans 0 [⟨0, 1, false, 0, 0, hereAt ssR rsR 0 0⟩] S0 (cmdOf (lnGo A)) okB (0 + A) [⟨0, 1, false, 0, 0, hereAt ssR rsR 0 0⟩] S0 := by rw [c2 A hA hA1]; exact ok (.act _ _ _ _ _ _ _ n2)
  have T2 := a2.true T1
  have n3 := told_ask (n := 3) T2 ls lr (i := 0) (k := 1) (by decide) (by decide) (by decide) (hereAt ssR rsR 0 0)
  obtain ⟨S1, hS1⟩ : ∃ S1, updS S0 1 ((S0 1).heard (hereAt ssR rsR (0 + A) 1)) = S1 := ⟨_, rfl⟩
  rw [hS1] at n3
  obtain ⟨L2, hL2⟩ : ∃ L2 : RLetter, (⟨((1 : Nat) : Int), ((0 : Nat) : Int), true, hereAt ssR rsR 0 0, hereAt ssR rsR (0 + A) 1, hereAt ssR rsR (0 + A) 1⟩ : RLetter) = L2 := ⟨_, rfl⟩
  rw [hL2] at n3
  have a3 : Ans (0 + A) [⟨0, 1, false, 0, 0, hereAt ssR rsR 0 0⟩] S0 (cmdOf lnDel) okB (0 + A) [L2] S1 := by rw [c3]; exact ok (.act _ _ _ _ _ _ _ n3)
  have T3 := a3.true T2
  have n4 : NAct 3 ssR rsR (0 + A) [L2] S1 ⟨1, B, 0⟩ 0 (0 + A + B) [L2] S1 := go_act hB (by omega) (by omega)
  have a4 : Ans (0 + A) [L2] S1 (cmdOf (lnGo B)) okB (0 + A + B) [L2] S1 := by rw [c2 B hB hB1]; exact ok (.act _ _ _ _ _ _ _ n4)
  have T4 := a4.true T3
  obtain ⟨lo0, hi0, n5⟩ := told_ans (n := 3) ls lr T4 (i := 0) (k := 1) (by decide) (by decide) (by decide) (by rw [← hL2]) (by rw [← hL2]) (by rw [← hL2])
  obtain ⟨S2, hS2⟩ : ∃ S2, updS S1 0 ((S1 0).learn ((1 : Nat) : Int) (hereAt ssR rsR (0 + A + B) 0) lo0 hi0) = S2 := ⟨_, rfl⟩
  have kn : Known S2 0 ((1 : Nat) : Int) := by rw [← hS2]; exact Known.learn (.inr rfl)
  rw [hS2] at n5
  have a5 : Ans (0 + A + B) [L2] S1 (cmdOf lnDel) okB (0 + A + B) [] S2 := by rw [c3]; exact ok (.act _ _ _ _ _ _ _ n5)
  have T5 := a5.true T4
  have n6 : NAct 3 ssR rsR (0 + A + B) [] S2 ⟨1, C, 0⟩ 0 (0 + A + B + C) [] S2 := go_act hC (by omega) (by omega)
  have a6 : Ans (0 + A + B) [] S2 (cmdOf (lnGo C)) okB (0 + A + B + C) [] S2 := by rw [c2 C hC hC1]; exact ok (.act _ _ _ _ _ _ _ n6)
  have T6 := a6.true T5
  obtain ⟨tt, htt⟩ : ∃ tt, 0 + A + B + C = tt := ⟨_, rfl⟩
  rw [htt] at a6 T6
  have a7 : Ans tt [] S2 (cmdOf lnS0) (itoa (showV tt 0)) tt [] S2 := by rw [c4]; exact .of _ _ (showC 0) _ _ _ (.show 0)
  have a8 : Ans tt [] S2 (cmdOf lnS1) (itoa (showV tt 1)) tt [] S2 := by rw [c5]; exact .of _ _ (showC 1) _ _ _ (.show 1)
  have e0 : showV tt 0 = hereAt ssR rsR tt 0 := rfl
  have e1 : showV tt 1 = hereAt ssR rsR tt 1 := rfl
  have key : ∀ (x : RSpan) (c : Int), OffS 3 (hereAt ssR rsR tt) S2 0 1 x c → c = 0 ∧ rightB x.lo x.hi = true ∧ hasB x.lo x.hi (showV tt 1 - showV tt 0) = true := by
    intro x c hO
    obtain ⟨z, hz, za, zb⟩ := T6.edge_known (i := 0) (k := 1) (by decide) (by decide) (by decide) kn
    obtain ⟨rfl, hh⟩ := T6.offset_known (a := 0) (b := 1) (by decide) (by decide) (by decide) ⟨1, _, .go .start ⟨z, hz, .inl ⟨za, zb, rfl⟩⟩⟩ hO
    refine ⟨rfl, ?_, by rw [e0, e1]; exact hh⟩
    unfold hasB at hh
    simp only [Bool.and_eq_true] at hh
    exact hh.1
  have b0 : 0 ≤ showV tt 0 ∧ showV tt 0 ≤ 1002000000 := by rw [e0]; exact T6.C.bd (by decide) T6.t0 T6.t1
  have b1 : 0 ≤ showV tt 1 ∧ showV tt 1 ≤ 1002000000 := by rw [e1]; exact T6.C.bd (by decide) T6.t0 T6.t1
  have g := ((((((((Trace.nil 0 [] S0).snoc a1).snoc a2).snoc a3).snoc a4).snoc a5).snoc a6).snoc a7).snoc a8
  obtain ⟨x, hx⟩ : ∃ x, showV tt 0 = x := ⟨_, rfl⟩
  obtain ⟨y, hy⟩ : ∃ y, showV tt 1 = y := ⟨_, rfl⟩
  rw [hx, hy] at key
  rw [hx] at b0
  rw [hy] at b1
  rw [hx, hy] at g
  clear e0 e1 hx hy
  obtain ⟨os', o, t', us', S', rfl, h8, a9⟩ := Trace.last (ls := [lnAsk, lnGo A, lnDel, lnGo B, lnDel, lnGo C, lnS0, lnS1]) (l := lnOff) h
  obtain ⟨rfl, rfl, rfl, rfl⟩ := h8.det T0 rfl g
  rw [c6] at a9
  cases a9 with
  | of _ o1 c _ _ _ hl =>
    cases hl with
    | offset _ _ z c hO =>
      obtain ⟨rfl, hr, hh⟩ := key z c hO
      refine ⟨x, y, z.lo, z.hi, ?_, hr, hh, b0, b1⟩
      have e3 : ansL (if (0 : Int) = 0 then printS z.lo z.hi else []) 0 = printL z.lo z.hi := by unfold ansL printS; rw [if_pos rfl, if_pos rfl, if_pos hr]
      rw [e3]
      rfl
end Go.Proofs.YtldlandcjegikaaGreatDoor
