/- Two more words on blocks. -/
import Derived.Test.YtepfbgbdcljlmaaDoorBase
namespace Go.Proofs.YtepfbgbdcljlmaaDoor
open Go.RowKit
set_option linter.unusedVariables false
set_option linter.unusedSimpArgs false
theorem Blk.newAt (w : World) (t : TypeId) (cs : Array Value) (g : Nat) (h : g = w.heap.size) : Blk (w.alloc (.cells cs t)) g t cs := by subst h; exact Blk.new w t cs
theorem blk_bel {w w' : World} {g B : Nat} {t : TypeId} {cs : Array Value} (hb : Below B w w') (hg : g < B) (h : Blk w g t cs) : Blk w' g t cs := h.below hb hg
end Go.Proofs.YtepfbgbdcljlmaaDoor
