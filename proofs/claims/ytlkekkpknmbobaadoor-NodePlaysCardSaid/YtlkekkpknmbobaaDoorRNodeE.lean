/- The reference's node: what it makes of any letter. -/
import Derived.Test.YtlkekkpknmbobaaDoorRNodeH
namespace Go.Proofs.YtlkekkpknmbobaaDoor
open Go.RowKit
set_option linter.unusedVariables false
set_option linter.unusedSimpArgs false
theorem r2_Hear (M : Nat) (s s' : NSt) (L : RLetter) (here : Int) (b : Bool) (c : Int) (w : World) (h : RNodeAt w M s) (hr : Hears s L here b c s') :
    Calls Tryd.prog 9 #[.pointer (some ⟨M, 0, none⟩), .agg #[.int .i64 L.src, .int .i64 L.dst, .bool L.answer, .int .i64 L.t1, .int .i64 L.t2, .int .i64 L.t], .int .i64 here] w fun e w' =>
      e = .returned (.tuple #[.bool b, .int .i64 c]) ∧ RNodeAt w' M s' ∧ Kept (fun k => k = M) w w' := by
  have hbel : ∀ {w' : World}, Below w.heap.size w w' → RNodeAt w' M s ∧ Kept (fun k => k = M) w w' := fun hb => ⟨h.below hb, (Kept.refl _ w).below hb⟩
  cases hr with
  | back hb => exact (rhear_back M s L here w h hb).mono (by rintro e w' ⟨rfl, h1⟩; exact ⟨rfl, hbel h1⟩)
  | shape hb h1 => exact (rhear_shape M s L here w h hb h1).mono (by rintro e w' ⟨rfl, h1⟩; exact ⟨rfl, hbel h1⟩)
  | ask hb h1 h2 h3 h4 h5 => exact (rhear_ask M s L here w h hb h1 h2 h3 h4 h5).mono (by rintro e w' ⟨rfl, h1⟩; exact ⟨rfl, h1⟩)
  | bad hb h1 h2 h3 h4 h5 h6 => exact (rhear_bad M s L here w h hb h1 h2 h3 h4 h5 h6).mono (by rintro e w' ⟨rfl, h1⟩; exact ⟨rfl, hbel h1⟩)
  | first hb h1 h2 h3 h4 h5 h6 h7 => exact (rhear_first M s L here w h hb h1 h2 h3 h4 h5 h6 h7).mono (by rintro e w' ⟨rfl, h1⟩; exact ⟨rfl, h1⟩)
  | clash k hb h1 h2 h3 h4 h5 h6 h7 h8 => exact (rhear_clash M s L here w h k hb h1 h2 h3 h4 h5 h6 h7 h8).mono (by rintro e w' ⟨rfl, h1⟩; exact ⟨rfl, hbel h1⟩)
  | more k hb h1 h2 h3 h4 h5 h6 h7 h8 => exact (rhear_more M s L here w h k hb h1 h2 h3 h4 h5 h6 h7 h8).mono (by rintro e w' ⟨rfl, h1⟩; exact ⟨rfl, h1⟩)
end Go.Proofs.YtlkekkpknmbobaaDoor
