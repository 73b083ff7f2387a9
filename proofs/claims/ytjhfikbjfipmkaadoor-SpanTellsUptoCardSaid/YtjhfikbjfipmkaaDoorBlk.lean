/- Two more words on blocks. -/
import Derived.Test.YtjhfikbjfipmkaaDoorBase
namespace Go.Proofs.YtjhfikbjfipmkaaDoor
open Go.RowKit
set_option linter.unusedVariables false
set_option linter.unusedSimpArgs false
theorem Blk.newAt (w : World) (t : TypeId) (cs : Array Value) (g : Nat) (h : g = w.heap.size) : Blk (w.alloc (.cells cs t)) g t cs := by subst h; exact Blk.new w t cs
theorem blk_bel {w w' : World} {g B : Nat} {t : TypeId} {cs : Array Value} (hb : Below B w w') (hg : g < B) (h : Blk w g t cs) : Blk w' g t cs := h.below hb hg
/-- block g is what becomes of some cells: for a search that goes back through the world. -/
def BlkG (w : World) (g : Nat) (t : TypeId) (F : Array Value → Array Value) (tgt : Array Value) : Prop := ∃ cs, Blk w g t cs ∧ F cs = tgt
theorem BlkG.start {w : World} {g : Nat} {t : TypeId} {tgt : Array Value} (h : BlkG w g t (fun cs => cs) tgt) : Blk w g t tgt := by
  obtain ⟨cs, h1, h2⟩ := h
  simp only [] at h2
  rw [← h2]; exact h1
theorem BlkG.done {w : World} {g : Nat} {t : TypeId} {F : Array Value → Array Value} {tgt cs : Array Value} (h : Blk w g t cs) (e : F cs = tgt) : BlkG w g t F tgt := ⟨cs, h, e⟩
theorem BlkG.set {w : World} {g : Nat} {t : TypeId} {F : Array Value → Array Value} {tgt : Array Value} {i : Nat} {u : Value} (h : BlkG w g t (fun cs => F (cs.setIfInBounds i u)) tgt) : BlkG (w.setCell ⟨g, i, none⟩ u) g t F tgt := by
  obtain ⟨cs, h1, h2⟩ := h
  exact ⟨_, h1.set i u, h2⟩
theorem BlkG.far {w : World} {g : Nat} {t : TypeId} {F : Array Value → Array Value} {tgt : Array Value} {b i : Nat} {e : Option Nat} {u : Value} (hb : g ≠ b) (h : BlkG w g t F tgt) : BlkG (w.setCell ⟨b, i, e⟩ u) g t F tgt := by
  obtain ⟨cs, h1, h2⟩ := h
  exact ⟨_, h1.far hb u, h2⟩
theorem BlkG.alloc {w : World} {g : Nat} {t : TypeId} {F : Array Value → Array Value} {tgt : Array Value} {o : Obj} (h : BlkG w g t F tgt) : BlkG (w.alloc o) g t F tgt := by
  obtain ⟨cs, h1, h2⟩ := h
  exact ⟨_, h1.alloc o, h2⟩
theorem BlkG.drew {w : World} {g : Nat} {t : TypeId} {F : Array Value → Array Value} {tgt : Array Value} (h : BlkG w g t F tgt) : BlkG w.drew g t F tgt := h
theorem BlkG.drewN {w : World} {g : Nat} {t : TypeId} {F : Array Value → Array Value} {tgt : Array Value} {n : Nat} (h : BlkG w g t F tgt) : BlkG (w.drewN n) g t F tgt := h
theorem BlkG.bel {w w' : World} {g B : Nat} {t : TypeId} {F : Array Value → Array Value} {tgt : Array Value} (hb : Below B w w') (hg : g < B) (h : BlkG w g t F tgt) : BlkG w' g t F tgt := by
  obtain ⟨cs, h1, h2⟩ := h
  exact ⟨_, h1.below hb hg, h2⟩
theorem BlkG.newAt {w : World} {g : Nat} {t : TypeId} {F : Array Value → Array Value} {tgt cs : Array Value} (hg : g = w.heap.size) (e : F cs = tgt) : BlkG (w.alloc (.cells cs t)) g t F tgt := ⟨cs, Blk.newAt w t cs g hg, e⟩
end Go.Proofs.YtjhfikbjfipmkaaDoor
