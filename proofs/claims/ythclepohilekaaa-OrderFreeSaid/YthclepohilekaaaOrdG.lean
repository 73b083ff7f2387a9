/- noonref2.Rank, walked. -/
import Derived.Test.YthclepohilekaaaOrdD
import Derived.Test.YthclepohilekaaaArr
import Derived.IntWalk
import Derived.Deep.Light
import Derived.Test.YthclepohilekaaaOrderR
namespace Go.Proofs.Ythclepohilekaaa
open Go.RowKit
set_option linter.unusedVariables false
set_option linter.unusedSimpArgs false
theorem evsAt {w : World} {A : Option Addr} {n c : Nat} {zs : List REvent} (h : IsRecs w REvent.cells REvent.ok 3 A n c zs) (h0 : 0 < n) : ∃ b off, A = some ⟨b, off, none⟩ ∧ b < w.heap.size ∧ ∀ wr, Below w.heap.size w wr → ∀ i, i < n → wr.cell? ⟨b, off + i * 3, none⟩ = some (.int .i64 (zs.getD i default).id) ∧ wr.cell? ⟨b, off + i * 3 + 1, none⟩ = some (.int .i64 (zs.getD i default).lo) ∧ wr.cell? ⟨b, off + i * 3 + 1 + 1, none⟩ = some (.int .i64 (zs.getD i default).hi) := by
  obtain ⟨l1, l2, l3, l4, l5⟩ := h
  obtain ⟨b, off, e, hb, hc⟩ := l5 h0
  refine ⟨b, off, e, hb, fun wr hB i hi => ?_⟩
  have hz : zs[i]? = some (zs.getD i default) := by rw [List.getD_eq_getElem?_getD, List.getElem?_eq_getElem (by omega : i < zs.length)]; rfl
  exact ⟨(hB.cell (p := ⟨b, off + i * 3, none⟩) hb).trans (hc i _ hz 0 _ rfl), (hB.cell (p := ⟨b, off + i * 3 + 1, none⟩) hb).trans (hc i _ hz 1 _ rfl), (hB.cell (p := ⟨b, off + i * 3 + 1 + 1, none⟩) hb).trans (hc i _ hz 2 _ rfl)⟩
