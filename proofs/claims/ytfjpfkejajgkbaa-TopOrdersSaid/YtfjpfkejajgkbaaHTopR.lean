/- Two rows of a call's own beside a net. -/
import Derived.Test.YtfjpfkejajgkbaaHNetA
namespace Go.Proofs.Ytfjpfkejajgkbaa
open Go.RowKit
set_option linter.unusedVariables false
set_option linter.unusedSimpArgs false
theorem own_keptP {P : Nat → Prop} {w w' : World} {B : Nat} {T : TypeId} {k n : Nat} {v : Value} {xs : List Value} (h : w.ownsRow B T k v n xs) (hK : Kept P w w') (hP : ∀ q, v.ownBlock = some q → ¬ P q) : w'.ownsRow B T k v n xs := by
  have hlt := h.lt
  refine ⟨h.1, ?_⟩
  rcases h.2 with e | ⟨g, cap, cur, rfl, hB, hg, hn, hm, hs, ht⟩
  · exact .inl e
  · exact .inr ⟨g, cap, cur, rfl, hB, (hK.block g (hlt g rfl).2 (hP g rfl)).trans hg, hn, hm, hs, ht⟩
/-- where a net's fixed blocks lie. -/
structure FixB (a : NAd) (C : Nat) : Prop where
  N : a.N < C
  q : a.q < C
  B : a.B ≤ C
  g : a.g < C
  n : ∀ i, i < a.n → a.gi i < C ∧ a.mb i < C
variable {w w' : World} {a : NAd} {ss rs : List Int} {p t t' : Int} {uv uv' : Value} {us us' : List RLetter} {K K' : Nat} {S : Nat → NSt}
theorem NetAt.fix (h : NetAt w a ss rs p t uv us K S) : FixB a w.heap.size :=
  ⟨h.net.lt, h.ql, h.W.Bw, Nat.lt_of_lt_of_le h.W.gB h.W.Bw, fun i hi => ⟨(h.nd i hi).blk.lt, (h.nd i hi).mp.lt⟩⟩
theorem NetAt.kept {P : Nat → Prop} {C : Nat} (h : NetAt w a ss rs p t uv us K S) (hK : Kept P w w') (f : FixB a C) (hP : ∀ q, P q → C ≤ q ∧ uv.ownBlock ≠ some q) : NetAt w' a ss rs p t uv us K S := by
  have hn : ∀ q, q < C → ¬ P q := fun q hq e => by have := (hP q e).1; omega
  exact ⟨(hK.block a.N h.net.lt (hn _ f.N)).trans h.net, h.W.other hK (fun k e => ⟨by have := (hP k e).1; have := f.B; omega, (hP k e).2⟩), fun i hi => (World.cell?_of_block (hK.block a.q h.ql (hn _ f.q))).trans (h.row i hi), Nat.lt_of_lt_of_le h.ql hK.size, h.nc, fun i hi => (h.nd i hi).other hK (hn _ (f.n i hi).1) (hn _ (f.n i hi).2), h.sN, h.ad, h.du, h.has⟩
structure TwoRows (w : World) (B : Nat) (lv ov uv : Value) (E : List REvent) (O : List Int) : Prop where
  l : w.ownsRow B 57 3 lv E.length (E.flatMap REvent.cells)
  o : w.ownsRow B 3 1 ov O.length (O.flatMap intCells)
  lo : ∀ q, lv.ownBlock = some q → ov.ownBlock ≠ some q
  lu : ∀ q, lv.ownBlock = some q → uv.ownBlock ≠ some q
  ou : ∀ q, ov.ownBlock = some q → uv.ownBlock ≠ some q
variable {B C : Nat} {lv ov : Value} {E : List REvent} {O : List Int}
theorem TwoRows.nil (w : World) (B : Nat) (uv : Value) : TwoRows w B (.slice none 0 0) (.slice none 0 0) uv [] [] :=
  ⟨own_nil _ _ _ _, own_nil _ _ _ _, fun q e => by simp [Value.ownBlock] at e, fun q e => by simp [Value.ownBlock] at e, fun q e => by simp [Value.ownBlock] at e⟩
theorem TwoRows.below (h : TwoRows w B lv ov uv E O) (hb : Below w.heap.size w w') : TwoRows w' B lv ov uv E O :=
  ⟨own_below h.l hb, own_below h.o hb, h.lo, h.lu, h.ou⟩
theorem TwoRows.done (h : TwoRows w B lv ov uv E O) (hK : Kept (NetMine a uv) w w') (f : FixB a B) (hq : ∀ q, uv'.ownBlock = some q → uv.ownBlock = some q ∨ w.heap.size ≤ q) : TwoRows w' B lv ov uv' E O := by
  have hl := h.l.lt
  have ho := h.o.lt
  have no : ∀ q, B ≤ q → uv.ownBlock ≠ some q → ¬ NetMine a uv q := fun q hq hu e => by
    rcases e with e | e | ⟨i, hi, e⟩
    · have := f.g; omega
    · exact hu e
    · have := f.n i hi; omega
  refine ⟨own_keptP h.l hK (fun q e => no q (hl q e).1 (h.lu q e)), own_keptP h.o hK (fun q e => no q (ho q e).1 (h.ou q e)), h.lo, fun q e e2 => ?_, fun q e e2 => ?_⟩
  · rcases hq q e2 with e3 | e3
    · exact h.lu q e e3
    · have := (hl q e).2; omega
  · rcases hq q e2 with e3 | e3
    · exact h.ou q e e3
    · have := (ho q e).2; omega
theorem grown_kept {w w' : World} {row : Option Nat} (hg : w.grownBy w' row) : Kept (fun k => row = some k) w w' :=
  (Kept.refl _ w).grown hg (fun k e => .inl e)
theorem own_one {gg n cap q : Nat} (e : (Value.slice (some ⟨gg, 0, none⟩) n cap).ownBlock = some q) : gg = q := by simpa [Value.ownBlock] using e
theorem TwoRows.pushO {gg cap : Nat} {z : Int} (h : TwoRows w B lv ov uv E O) (hg : w.grownBy w' ov.ownBlock) (hgg : ov.ownBlock = some gg ∨ gg = w.heap.size) (ho : w'.ownsRow B 3 1 (.slice (some ⟨gg, 0, none⟩) (O.length + 1) cap) (O.length + 1) (O.flatMap intCells ++ intCells z)) (hu : ∀ q, uv.ownBlock = some q → q < w.heap.size) : TwoRows w' B lv (.slice (some ⟨gg, 0, none⟩) (O.length + 1) cap) uv E (O ++ [z]) := by
  have hl := h.l.lt
  refine ⟨own_keptP h.l (grown_kept hg) (fun q e e2 => h.lo q e e2), own_snoc intCells ho, fun q e e2 => ?_, h.lu, fun q e e2 => ?_⟩
  · have := own_one e2
    subst this
    rcases hgg with e3 | e3
    · exact h.lo _ e e3
    · have := (hl _ e).2; omega
  · have := own_one e
    subst this
    rcases hgg with e3 | e3
    · exact h.ou _ e3 e2
    · have := hu _ e2; omega
theorem TwoRows.pushL {gg cap : Nat} {z : REvent} (h : TwoRows w B lv ov uv E O) (hg : w.grownBy w' lv.ownBlock) (hgg : lv.ownBlock = some gg ∨ gg = w.heap.size) (hl : w'.ownsRow B 57 3 (.slice (some ⟨gg, 0, none⟩) (E.length + 1) cap) (E.length + 1) (E.flatMap REvent.cells ++ REvent.cells z)) (hu : ∀ q, uv.ownBlock = some q → q < w.heap.size) : TwoRows w' B (.slice (some ⟨gg, 0, none⟩) (E.length + 1) cap) ov uv (E ++ [z]) O := by
  have ho := h.o.lt
  refine ⟨own_snoc REvent.cells hl, own_keptP h.o (grown_kept hg) (fun q e e2 => h.lo q e2 e), fun q e e2 => ?_, fun q e e2 => ?_, h.ou⟩
  · have := own_one e
    subst this
    rcases hgg with e3 | e3
    · exact h.lo _ e3 e2
    · have := (ho _ e2).2; omega
  · have := own_one e
    subst this
    rcases hgg with e3 | e3
    · exact h.lu _ e3 e2
    · have := hu _ e2; omega
/-- a row of the call's own grows: the net stays. -/
theorem NetAt.grown {row : Option Nat} (h : NetAt w a ss rs p t uv us K S) (hg : w.grownBy w' row) (f : FixB a B) (hB : ∀ q, row = some q → B ≤ q ∧ uv.ownBlock ≠ some q) : NetAt w' a ss rs p t uv us K S :=
  h.kept (grown_kept hg) f hB
end Go.Proofs.Ytfjpfkejajgkbaa
