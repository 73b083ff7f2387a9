/- Package node: what a node makes of any letter. -/
import Derived.Test.YtfjpfkejajgkbaaDoorHNodeH
namespace Go.Proofs.YtfjpfkejajgkbaaDoor
open Go.RowKit
set_option linter.unusedVariables false
set_option linter.unusedSimpArgs false
theorem node_Hear (g mb K : Nat) (s s' : NSt) (L : RLetter) (here : Int) (b : Bool) (c : Int) (w : World) (h : NodeAt w g mb K s) (hK : K < 1000000) (hr : Hears s L here b c s') :
    Calls Tryd.prog 32 #[.pointer (some ⟨g, 0, none⟩), .agg #[.int .i64 L.src, .int .i64 L.dst, .bool L.answer, .int .i64 L.t1, .int .i64 L.t2, .int .i64 L.t], .int .i64 here] w fun e w' =>
      e = .returned (.tuple #[.bool b, errV c]) ∧ NodeAt w' g mb (K + 1) s' ∧ Kept (NMine g mb) w w' := by
  have hbel : ∀ {w' : World}, Below w.heap.size w w' → NodeAt w' g mb (K + 1) s ∧ Kept (NMine g mb) w w' := fun hb => ⟨(h.below hb).mono (by omega), (Kept.refl _ w).below hb⟩
  cases hr with
  | back hb => exact (hear_back g mb K s L here w h hb).mono (by rintro e w' ⟨rfl, h1⟩; exact ⟨rfl, hbel h1⟩)
  | shape hb h1 => exact (hear_shape g mb K s L here w h hb h1).mono (by rintro e w' ⟨rfl, h1⟩; exact ⟨rfl, hbel h1⟩)
  | ask hb h1 h2 h3 h4 h5 => exact (hear_ask g mb K s L here w h hb h1 h2 h3 h4 h5).mono (by rintro e w' ⟨rfl, h1⟩; exact ⟨rfl, h1⟩)
  | bad hb h1 h2 h3 h4 h5 h6 => exact (hear_bad g mb K s L here w h hb h1 h2 h3 h4 h5 h6).mono (by rintro e w' ⟨rfl, h1⟩; exact ⟨rfl, hbel h1⟩)
  | first hb h1 h2 h3 h4 h5 h6 h7 => exact (hear_first g mb K s L here w h hb h1 h2 h3 h4 h5 h6 h7 hK).mono (by rintro e w' ⟨rfl, h1⟩; exact ⟨rfl, h1⟩)
  | clash k hb h1 h2 h3 h4 h5 h6 h7 h8 => exact (hear_clash g mb K s L here w h k hb h1 h2 h3 h4 h5 h6 h7 h8).mono (by rintro e w' ⟨rfl, h1⟩; exact ⟨rfl, hbel h1⟩)
  | more k hb h1 h2 h3 h4 h5 h6 h7 h8 => exact (hear_more g mb K s L here w h k hb h1 h2 h3 h4 h5 h6 h7 h8 hK).mono (by rintro e w' ⟨rfl, h1⟩; exact ⟨rfl, h1⟩)
end Go.Proofs.YtfjpfkejajgkbaaDoor
