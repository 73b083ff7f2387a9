/- Both worlds side by side: what an act on one leaves of the other. -/
import Derived.Test.YtloniibmmajlbaaDoorPlaysW
import Derived.Test.YtloniibmmajlbaaDoorRBegin
import Derived.Test.YtloniibmmajlbaaDoorWorldC
import Derived.Test.YtloniibmmajlbaaDoorSameL
namespace Go.Proofs.YtloniibmmajlbaaDoor
open Go.RowKit
set_option linter.unusedVariables false
set_option linter.unusedSimpArgs false
/-- both worlds, side by side. -/
structure Both (W0 w : World) (g B M B2 n : Nat) (A1 A2 : Option Addr) (c1 c2 : Nat) (ss rs : List Int) (t t2 : Int) (uv uv2 : Value) (us us2 : List RLetter) : Prop where
  W : WorldU w g B n ss rs t uv us
  R : RWorld W0 w M B2 n A1 A2 c1 c2 t2 uv2 us2
  g0 : W0.heap.size ≤ g
  BM : B ≤ M
  dis : ∀ q, uv.ownBlock = some q → q ≠ M ∧ uv2.ownBlock ≠ some q
variable {W0 w w' : World} {g B M B2 n : Nat} {A1 A2 : Option Addr} {c1 c2 : Nat} {ss rs : List Int} {t t2 t' : Int} {uv uv2 uv' : Value} {us us2 us' : List RLetter}
theorem Both.below (h : Both W0 w g B M B2 n A1 A2 c1 c2 ss rs t t2 uv uv2 us us2) (hb : Below w.heap.size w w') : Both W0 w' g B M B2 n A1 A2 c1 c2 ss rs t t2 uv uv2 us us2 :=
  ⟨h.W.below hb, h.R.below hb, h.g0, h.BM, h.dis⟩
theorem Both.left (h : Both W0 w g B M B2 n A1 A2 c1 c2 ss rs t t2 uv uv2 us us2) (hW : WorldU w' g B n ss rs t' uv' us') (hK : Kept (Mine g uv) w w') (hq : ∀ q, uv'.ownBlock = some q → uv.ownBlock = some q ∨ w.heap.size ≤ q) : Both W0 w' g B M B2 n A1 A2 c1 c2 ss rs t' t2 uv' uv2 us' us2 := by
  have gB := h.W.gB
  have g0 := h.g0
  have BM := h.BM
  refine ⟨hW, h.R.other hK (fun k e => ?_), h.g0, h.BM, fun q e => ?_⟩
  · rcases e with e | e
    · subst e
      exact ⟨g0, by omega, fun e2 => by have := (h.R.low _ e2).1; have := h.R.MB; omega⟩
    · have hl := h.W.low k e
      exact ⟨by omega, (h.dis k e).1, (h.dis k e).2⟩
  · rcases hq q e with h1 | h1
    · exact h.dis q h1
    · exact ⟨by have := h.R.MB; have := h.R.Bw; omega, fun e2 => by have := (h.R.low _ e2).2; omega⟩
theorem Both.right (h : Both W0 w g B M B2 n A1 A2 c1 c2 ss rs t t2 uv uv2 us us2) (hR : RWorld W0 w' M B2 n A1 A2 c1 c2 t' uv' us') (hK : Kept (Mine M uv2) w w') (hq : ∀ q, uv'.ownBlock = some q → uv2.ownBlock = some q ∨ w.heap.size ≤ q) : Both W0 w' g B M B2 n A1 A2 c1 c2 ss rs t t' uv uv' us us' := by
  have gB := h.W.gB
  have BM := h.BM
  refine ⟨h.W.other hK (fun k e => ?_), hR, h.g0, h.BM, fun q e => ⟨(h.dis q e).1, fun e2 => ?_⟩⟩
  · rcases e with e | e
    · subst e
      exact ⟨BM, fun e2 => (h.dis k e2).1 rfl⟩
    · have hl := h.R.low k e
      exact ⟨by have := h.R.MB; omega, fun e2 => (h.dis k e2).2 e⟩
  · rcases hq q e2 with h1 | h1
    · exact (h.dis q e).2 h1
    · have := (h.W.low _ e).2; omega
theorem Both.old (h : Both W0 w g B M B2 n A1 A2 c1 c2 ss rs t t2 uv uv2 us us2) : Below W0.heap.size W0 w := h.R.old
/-- a block that is neither world's. -/
theorem far_left {cs : Array Value} {T : TypeId} {m : Nat} (h : Both W0 w g B M B2 n A1 A2 c1 c2 ss rs t t2 uv uv2 us us2) (hb : Blk w m T cs) (hK : Kept (Mine g uv) w w') (hm : m ≠ g) (hu : uv.ownBlock ≠ some m) : Blk w' m T cs :=
  (hK.block m hb.lt (fun e => by rcases e with e | e; exact hm e; exact hu e)).trans hb
theorem far_right {cs : Array Value} {T : TypeId} {m : Nat} (h : Both W0 w g B M B2 n A1 A2 c1 c2 ss rs t t2 uv uv2 us us2) (hb : Blk w m T cs) (hK : Kept (Mine M uv2) w w') (hm : m ≠ M) (hu : uv2.ownBlock ≠ some m) : Blk w' m T cs :=
  (hK.block m hb.lt (fun e => by rcases e with e | e; exact hm e; exact hu e)).trans hb
/-- the cells of a letter. -/
def LCells (w : World) (m : Nat) (L : RLetter) : Prop := w.cell? ⟨m, 0, none⟩ = some (.int .i64 L.src) ∧ w.cell? ⟨m, 1, none⟩ = some (.int .i64 L.dst) ∧ w.cell? ⟨m, 2, none⟩ = some (.bool L.answer) ∧ w.cell? ⟨m, 3, none⟩ = some (.int .i64 L.t1) ∧ w.cell? ⟨m, 4, none⟩ = some (.int .i64 L.t2) ∧ w.cell? ⟨m, 5, none⟩ = some (.int .i64 L.t)
theorem lcells {w : World} {m : Nat} {T : TypeId} {L : RLetter} (h : Blk w m T (RLetter.cells L).toArray) : LCells w m L :=
  ⟨h.cell 0, h.cell 1, h.cell 2, h.cell 3, h.cell 4, h.cell 5⟩
end Go.Proofs.YtloniibmmajlbaaDoor
