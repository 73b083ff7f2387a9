/- Package noontop: its closed fact, walked. -/
import Derived.Test.YtfjpfkejajgkbaaDoorHProbe
namespace Go.Proofs.YtfjpfkejajgkbaaDoor
open Go.RowKit
set_option linter.unusedVariables false
set_option linter.unusedSimpArgs false
set_option maxRecDepth 100000 in
set_option maxHeartbeats 4000000 in
theorem top_one (w : World) :
    Calls Tryd.prog 5 #[] w fun e w' => e = .returned (.bool true) ∧ Below w.heap.size w w' := by
  have C := Lib.hid (fun W => by have := Offset_any 0 100 100 10 0 W; rw [show offS 0 100 100 10 0 = ⟨90, 102, 0⟩ from rfl] at this; exact this)
  go_enter Tryd.func5, Tryd.ntmps5
  go_wp2_with fail
  refine (C.out _).mono ?_
  rintro e w1 ⟨rfl, hb1⟩
  have HB1 := Lib.hid (show Below w.heap.size w w1 from (by repeat (first | with_reducible exact Below.refl _ _ | (with_reducible refine Below.alloc ?_ (by first | omega | (simp; done) | (simp; omega)) _) | (with_reducible refine Below.setCell ?_ (by first | omega | (simp; done) | (simp; omega)) _) | (with_reducible refine Below.drew ?_) | (with_reducible refine below_drewN ?_ _) | (with_reducible assumption) | (with_reducible refine bel_step (by with_reducible assumption) ?_ (by first | omega | (simp; done) | (simp; omega))))))
  have hz1 := HB1.out.size
  clear hb1 C
  go_wp2_with fail
  go_ret
  exact ⟨rfl, HB1.out.alloc hz1 _⟩
end Go.Proofs.YtfjpfkejajgkbaaDoor
