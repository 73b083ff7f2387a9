/- order.Could, Times, Ranks at events that are refused, walked. -/
import Derived.Test.YtfjpfkejajgkbaaHOrdF
namespace Go.Proofs.Ytfjpfkejajgkbaa
open Go.RowKit Go.Maps
set_option linter.unusedVariables false
set_option linter.unusedSimpArgs false
set_option maxRecDepth 100000 in
set_option maxHeartbeats 4000000 in
theorem order_Could_bad (A : Option Addr) (n c : Nat) (zs : List REvent) (D : Option Addr) (m d : Nat) (o : List Int) (w : World) (h : IsRecs w REvent.cells REvent.ok 3 A n c zs) (g : IsInts w D m d o) (hm8 : m * 8 ≤ 140737488351232) (E : Int) (e0 : readyC zs o = E) (hE : E ≠ 0) :
    Calls Try.prog 17 #[.slice A n c, .slice D m d] w fun e w' => e = .returned (.tuple #[.bool false, .iface 81 (.int .i64 E)]) ∧ Below w.heap.size w w' := by
  have CK := order_ready A n c zs D m d o w h g hm8
  rw [e0, errV_ne hE] at CK
  have CK := Lib.hid CK
  clear h g e0
  go_enter Try.func17, Try.ntmps17
  go_wp2_with fail
  refine CK.out.mono ?_
  rintro e w1 ⟨rfl, hb1⟩
  go_wp2_with fail
  go_ret2
  exact ⟨rfl, hb1⟩
set_option maxRecDepth 100000 in
set_option maxHeartbeats 4000000 in
theorem order_Times_bad (A : Option Addr) (n c : Nat) (zs : List REvent) (D : Option Addr) (m d : Nat) (o : List Int) (w : World) (h : IsRecs w REvent.cells REvent.ok 3 A n c zs) (g : IsInts w D m d o) (hm8 : m * 8 ≤ 140737488351232) (E : Int) (e0 : readyC zs o = E) (hE : E ≠ 0) :
    Calls Try.prog 18 #[.slice A n c, .slice D m d] w fun e w' => e = .returned (.tuple #[.slice none 0 0, .iface 81 (.int .i64 E)]) ∧ Below w.heap.size w w' := by
  have CK := order_ready A n c zs D m d o w h g hm8
  rw [e0, errV_ne hE] at CK
  have CK := Lib.hid CK
  clear h g e0
  go_enter Try.func18, Try.ntmps18
  go_wp2_with fail
  refine CK.out.mono ?_
  rintro e w1 ⟨rfl, hb1⟩
  go_wp2_with fail
  go_ret2
  exact ⟨rfl, hb1⟩
theorem readyC_0 {zs : List REvent} {o : List Int} (h : readyC zs o = 0) : evC zs = 0 ∧ EachP zs.length o := by
  unfold readyC at h
  by_cases c : evC zs = 0
  · rw [if_pos c] at h
    refine ⟨c, ?_⟩
    by_cases d : eachB zs.length o = true
    · exact eachB_iff.1 d
    · rw [if_neg d] at h; cases h
  · rw [if_neg c] at h; exact absurd h c
set_option maxRecDepth 100000 in
set_option maxHeartbeats 4000000 in
theorem order_Could_ok (A : Option Addr) (n c : Nat) (zs : List REvent) (D : Option Addr) (m d : Nat) (o : List Int) (w : World) (h : IsRecs w REvent.cells REvent.ok 3 A n c zs) (g : IsInts w D m d o) (hm8 : m * 8 ≤ 140737488351232) (e0 : readyC zs o = 0) :
    Calls Try.prog 17 #[.slice A n c, .slice D m d] w fun e w' => e = .returned (.tuple #[.bool (couldB zs o), .nilIface]) ∧ Below w.heap.size w w' := by
  have CK := order_ready A n c zs D m d o w h g hm8
  rw [e0, errV_0] at CK
  have CK := Lib.hid CK
  obtain ⟨e1, e2, e3, e4⟩ := readyC_0 e0
  obtain rfl : n = m := by rw [← g.1, ← h.1]; exact e2.symm
  have h12 := (evC_0 e1).1
  rw [h.1] at h12 e3
  have CT := Lib.hid (fun w' (hb : Below w.heap.size w w') => order_times A n c zs D n d o w' (h.below hb) (IsRecs.below g hb) (evC_0 e1).2 e3 h12)
  clear h g e0 e1 e2 e3 e4
  go_enter Try.func17, Try.ntmps17
  go_wp2_with fail
  refine CK.out.mono ?_
  rintro e w1 ⟨rfl, hb1⟩
  go_wp2_with fail
  refine (CT.out _ hb1).mono ?_
  rintro e w2 ⟨B, p, q, rfl, hI, hb2⟩
  have HB2 := Lib.hid (hb1.trans (hb2.mono hb1.size))
  clear hI hb2
  go_wp2_with fail
  go_ret2
  exact ⟨rfl, HB2.out⟩
/-- the times, or that there are none. -/
def TimesRet2 (zs : List REvent) (o : List Int) (w : World) (e : Ending) (w' : World) : Prop :=
  ∃ B m d, e = .returned (.tuple #[.slice B m d, errV (if couldB zs o = true then 0 else 5)]) ∧ IsInts w' B m d (if couldB zs o = true then tmL zs o o.length else []) ∧ Below w.heap.size w w'
set_option maxRecDepth 100000 in
set_option maxHeartbeats 4000000 in
theorem order_Times_ok (A : Option Addr) (n c : Nat) (zs : List REvent) (D : Option Addr) (m d : Nat) (o : List Int) (w : World) (h : IsRecs w REvent.cells REvent.ok 3 A n c zs) (g : IsInts w D m d o) (hm8 : m * 8 ≤ 140737488351232) (e0 : readyC zs o = 0) :
    Calls Try.prog 18 #[.slice A n c, .slice D m d] w (TimesRet2 zs o w) := by
  have CK := order_ready A n c zs D m d o w h g hm8
  rw [e0, errV_0] at CK
  have CK := Lib.hid CK
  obtain ⟨e1, e2, e3, e4⟩ := readyC_0 e0
  obtain rfl : n = m := by rw [← g.1, ← h.1]; exact e2.symm
  have h12 := (evC_0 e1).1
  rw [h.1] at h12 e3
  have CT := Lib.hid (fun w' (hb : Below w.heap.size w w') => order_times A n c zs D n d o w' (h.below hb) (IsRecs.below g hb) (evC_0 e1).2 e3 h12)
  clear h g e0 e1 e2 e3 e4
  go_enter Try.func18, Try.ntmps18
  go_wp2_with fail
  refine CK.out.mono ?_
  rintro e w1 ⟨rfl, hb1⟩
  go_wp2_with fail
  refine (CT.out _ hb1).mono ?_
  rintro e w2 ⟨B, p, q, rfl, hI, hb2⟩
  have HB2 := Lib.hid (hb1.trans (hb2.mono hb1.size))
  cases e5 : couldB zs o
  · have HC := Lib.hid e5
    clear hI hb2
    as_aux_lemma =>
      go_wp2_with fail
      go_ret2
      exact ⟨none, 0, 0, by rw [HC.out]; rfl, by rw [HC.out]; exact ints_nil _, HB2.out⟩
  · have HI := Lib.hid hI
    have HC := Lib.hid e5
    clear hI hb2
    as_aux_lemma =>
      go_wp2_with fail
      go_ret2
      exact ⟨B, p, q, by rw [HC.out]; rfl, HI.out, HB2.out⟩
end Go.Proofs.Ytfjpfkejajgkbaa
