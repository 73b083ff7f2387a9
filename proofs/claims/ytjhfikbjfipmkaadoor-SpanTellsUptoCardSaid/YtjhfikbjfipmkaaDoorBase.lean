/- Words that all walks use: errors as values, what stays below a block, results. -/
import Derived.Test.YtjhfikbjfipmkaaDoorProg
import Derived.Test.YtjhfikbjfipmkaaDoorPlain
import Derived.WalkKit
import Derived.WalkSpells
import Derived.WalkLawsBesides
import Derived.Deep.QuietTactic
import Derived.BigQuiet
import Derived.Lib.Hide
import Derived.Deep.RegionWith
import Derived.Deep.RegionHeld3
import Derived.StillTailTactics
import Derived.Deep.RegionLaw
import Derived.Deep.AppendLies
import Derived.Deep.Draws
import Derived.Deep.OwnRows
import Derived.Laws.Rows
namespace Go.Proofs.YtjhfikbjfipmkaaDoor
open Go.RowKit
set_option linter.unusedVariables false
set_option linter.unusedSimpArgs false
@[go_sem] theorem lt_p2 (n : Nat) : n < n + 1 + 1 := by omega
@[go_sem] theorem lt_p3 (n : Nat) : n < n + 1 + 1 + 1 := by omega
@[go_sem] theorem lt_p4 (n : Nat) : n < n + 1 + 1 + 1 + 1 := by omega
@[go_sem] theorem lt_p5 (n : Nat) : n < n + 1 + 1 + 1 + 1 + 1 := by omega
@[go_sem] theorem lt_p6 (n : Nat) : n < n + 1 + 1 + 1 + 1 + 1 + 1 := by omega
/-- an error by its number; 0 is none. -/
def errV (c : Int) : Value := if c = 0 then .nilIface else .iface 47 (.int .i64 c)
@[go_sem] theorem errV_true : errV (okC true) = .nilIface := rfl
@[go_sem] theorem errV_false : errV (okC false) = .iface 47 (.int .i64 1) := rfl
@[go_sem] theorem errV_0 : errV 0 = .nilIface := rfl
@[go_sem] theorem errV_1 : errV 1 = .iface 47 (.int .i64 1) := rfl
@[go_sem] theorem errV_2 : errV 2 = .iface 47 (.int .i64 2) := rfl
@[go_sem] theorem errV_3 : errV 3 = .iface 47 (.int .i64 3) := rfl
@[go_sem] theorem errV_4 : errV 4 = .iface 47 (.int .i64 4) := rfl
@[go_sem] theorem errV_5 : errV 5 = .iface 47 (.int .i64 5) := rfl
@[go_sem] theorem errV_6 : errV 6 = .iface 47 (.int .i64 6) := rfl
@[go_sem] theorem errV_7 : errV 7 = .iface 47 (.int .i64 7) := rfl
@[go_sem] theorem errV_8 : errV 8 = .iface 47 (.int .i64 8) := rfl
theorem errV_ne {c : Int} (h : c ≠ 0) : errV c = .iface 47 (.int .i64 c) := if_neg h
theorem ret_bool {a b : Bool} (h : a = b) : Ending.returned (.bool a) = .returned (.bool b) := by rw [h]
theorem ret_int {k : IntKind} {a b : Int} (h : a = b) : Ending.returned (.int k a) = .returned (.int k b) := by rw [h]
theorem ret_v {a b : Value} (h : a = b) : Ending.returned a = .returned b := by rw [h]
theorem bcell {W w1 : World} (hb : Below W.heap.size W w1) : (∀ b o, b < W.heap.size → w1.cell? ⟨b, o, none⟩ = W.cell? ⟨b, o, none⟩) ∧ (∀ b o, b < W.heap.size → w1.frozen? ⟨b, o, none⟩ = W.frozen? ⟨b, o, none⟩) :=
  ⟨fun b o h => hb.cell (p := ⟨b, o, none⟩) h, fun b o h => hb.frozen (p := ⟨b, o, none⟩) h⟩
theorem below_drewN {B : Nat} {a w : World} (h : Below B a w) (n : Nat) : Below B a (w.drewN n) := ⟨h.os, h.tape, h.output, h.size, h.block⟩
theorem bel_step {B : Nat} {w W w1 : World} (hb : Below W.heap.size W w1) (h : Below B w W) (hB : B ≤ W.heap.size) : Below B w w1 := h.trans (hb.mono hB)
theorem quiet_left {P : Program} {f : FuncId} {args : Array Value} {w : World} {n : Nat} {v : Value}
    (h : Calls P f args (w.drewN n) fun e w' => e = .returned v ∧ w.drewN n = w') : Calls P f args (w.drewN n) fun e w'' => e = .returned v ∧ ∃ m, w'' = w.drewN m :=
  h.mono fun _ _ ⟨he, hm⟩ => ⟨he, n, hm.symm⟩
theorem quiet_add_left {P : Program} {f : FuncId} {args : Array Value} {w : World} {a n : Nat} {v : Value}
    (h : Calls P f args (w.drewN (a + n)) fun e w' => e = .returned v ∧ w.drewN (a + n) = w') :
    Calls P f args (w.drewN (a + n)) fun e w'' => e = .returned v ∧ ∃ m, w'' = w.drewN (a + m) :=
  h.mono fun _ _ ⟨he, hm⟩ => ⟨he, n, hm.symm⟩
/-! only one block, and what is new, has turned: 'grownBy w w' (some g)' -/
theorem only_setCell {a w : World} {g : Nat} (h : a.grownBy w (some g)) {p : Addr} (hp : p.block = g ∨ a.heap.size ≤ p.block) (u : Value) : a.grownBy (w.setCell p u) (some g) :=
  ⟨h.os, h.tape, h.output, by simpa [World.setCell] using h.size, fun i hi hne => (Below.heap_setCell w p u i (by
    rintro rfl
    rcases hp with hp | hp
    · exact hne (by rw [hp])
    · omega)).trans (h.block i hi hne)⟩
theorem only_alloc {a w : World} {row : Option Nat} (h : a.grownBy w row) (o : Obj) : a.grownBy (w.alloc o) row :=
  ⟨h.os, h.tape, h.output, Nat.le_trans h.size (by simp), fun i hi hne => (Below.heap_alloc w o i (Nat.lt_of_lt_of_le hi h.size)).trans (h.block i hi hne)⟩
theorem only_drewN {a w : World} {row : Option Nat} (h : a.grownBy w row) (n : Nat) : a.grownBy (w.drewN n) row := ⟨h.os, h.tape, h.output, h.size, h.block⟩
theorem only_cell {w w' : World} {g : Nat} (h : w.grownBy w' (some g)) {b : Nat} (hb : b < w.heap.size) (hne : b ≠ g) (o : Nat) : w'.cell? ⟨b, o, none⟩ = w.cell? ⟨b, o, none⟩ :=
  World.cell?_of_block (w := w) (h.block b hb (fun e => hne (by injection e)))
theorem only_below {w w' : World} {g B : Nat} (h : w.grownBy w' (some g)) (hB : B ≤ g) (hs : B ≤ w.heap.size) : Below B w w' :=
  (Below.refl B w).grown h hs (fun k hk => by injection hk with hk; omega)
/-- block g is just these cells, none frozen. -/
def Blk (w : World) (g : Nat) (t : TypeId) (cs : Array Value) : Prop := w.heap[g]? = some (.cells cs t (0, 0))
theorem Blk.lt {w : World} {g : Nat} {t : TypeId} {cs : Array Value} (h : Blk w g t cs) : g < w.heap.size := by
  rcases Nat.lt_or_ge g w.heap.size with hlt | hge
  · exact hlt
  · unfold Blk at h; rw [Array.getElem?_eq_none hge] at h; cases h
theorem Blk.cell {w : World} {g : Nat} {t : TypeId} {cs : Array Value} (h : Blk w g t cs) (i : Nat) : w.cell? ⟨g, i, none⟩ = cs[i]? := cell_of_row w g i cs t (0, 0) h
theorem Blk.fz {w : World} {g : Nat} {t : TypeId} {cs : Array Value} (h : Blk w g t cs) (i : Nat) : w.frozen? ⟨g, i, none⟩ = false := by
  unfold Blk at h
  simp [World.frozen?, h]
theorem Blk.new (w : World) (t : TypeId) (cs : Array Value) : Blk (w.alloc (.cells cs t)) w.heap.size t cs := heap_alloc_new w _
theorem Blk.drewN {w : World} {g : Nat} {t : TypeId} {cs : Array Value} (h : Blk w g t cs) (n : Nat) : Blk (w.drewN n) g t cs := h
theorem Blk.drew {w : World} {g : Nat} {t : TypeId} {cs : Array Value} (h : Blk w g t cs) : Blk w.drew g t cs := h
theorem Blk.alloc {w : World} {g : Nat} {t : TypeId} {cs : Array Value} (h : Blk w g t cs) (o : Obj) : Blk (w.alloc o) g t cs := (Below.heap_alloc w o g h.lt).trans h
theorem Blk.set {w : World} {g : Nat} {t : TypeId} {cs : Array Value} (h : Blk w g t cs) (i : Nat) (u : Value) : Blk (w.setCell ⟨g, i, none⟩ u) g t (cs.setIfInBounds i u) := by
  unfold Blk at h ⊢
  simp [World.setCell, Array.getElem?_modify, h]
theorem Blk.far {w : World} {g : Nat} {t : TypeId} {cs : Array Value} (h : Blk w g t cs) {p : Addr} (hp : g ≠ p.block) (u : Value) : Blk (w.setCell p u) g t cs := (Below.heap_setCell w p u g hp).trans h
theorem Blk.below {w w' : World} {g B : Nat} {t : TypeId} {cs : Array Value} (h : Blk w g t cs) (hb : Below B w w') (hg : g < B) : Blk w' g t cs := (hb.block g hg).trans h
theorem Blk.grown {w w' : World} {g : Nat} {t : TypeId} {cs : Array Value} {row : Option Nat} (h : Blk w g t cs) (hb : w.grownBy w' row) (hg : some g ≠ row) : Blk w' g t cs := (hb.block g h.lt hg).trans h
/-- only block g has turned. -/
def Touched (g : Nat) (w w' : World) : Prop := w.grownBy w' (some g)
theorem Touched.refl (g : Nat) (w : World) : Touched g w w := World.grownBy.refl w _
theorem Touched.set {g : Nat} {w w1 : World} (h : Touched g w w1) (o : Nat) (u : Value) : Touched g w (w1.setCell ⟨g, o, none⟩ u) := only_setCell (p := ⟨g, o, none⟩) h (.inl rfl) u
theorem Touched.below {g B : Nat} {w w' : World} (h : Touched g w w') (hB : B ≤ g) (hs : B ≤ w.heap.size) : Below B w w' := only_below h hB hs
theorem Touched.size {g : Nat} {w w' : World} (h : Touched g w w') : w.heap.size ≤ w'.heap.size := World.grownBy.size h
theorem Touched.cell {g : Nat} {w w' : World} (h : Touched g w w') {b : Nat} (hb : b < w.heap.size) (hne : b ≠ g) (o : Nat) : w'.cell? ⟨b, o, none⟩ = w.cell? ⟨b, o, none⟩ := only_cell h hb hne o
theorem Touched.of_below {g : Nat} {w w1 : World} (h : Below w.heap.size w w1) : Touched g w w1 := ⟨h.os, h.tape, h.output, h.size, fun i hi _ => h.block i hi⟩
theorem Touched.setp {g : Nat} {w w1 : World} (h : Touched g w w1) (p : Addr) (hp : p.block = g ∨ w.heap.size ≤ p.block) (u : Value) : Touched g w (w1.setCell p u) := only_setCell h hp u
theorem Touched.alloc {g : Nat} {w w1 : World} (h : Touched g w w1) (o : Obj) : Touched g w (w1.alloc o) := only_alloc h o
theorem Touched.drewN {g : Nat} {w w1 : World} (h : Touched g w w1) (n : Nat) : Touched g w (w1.drewN n) := only_drewN h n
theorem Touched.drew {g : Nat} {w w1 : World} (h : Touched g w w1) : Touched g w w1.drew := only_drewN h 1
theorem Touched.then {g : Nat} {w W w1 : World} (hb : Below W.heap.size W w1) (h : Touched g w W) : Touched g w w1 :=
  ⟨hb.os.trans h.os, hb.tape.trans h.tape, hb.output.trans h.output, Nat.le_trans h.size hb.size, fun i hi hne => (hb.block i (Nat.lt_of_lt_of_le hi h.size)).trans (h.block i hi hne)⟩
theorem Touched.trans {g : Nat} {w W w1 : World} (hb : Touched g W w1) (h : Touched g w W) : Touched g w w1 :=
  ⟨hb.os.trans h.os, hb.tape.trans h.tape, hb.output.trans h.output, Nat.le_trans h.size hb.size, fun i hi hne => (hb.block i (Nat.lt_of_lt_of_le hi h.size) hne).trans (h.block i hi hne)⟩
theorem Blk.conv {w : World} {g : Nat} {t : TypeId} {cs cs' : Array Value} (h : Blk w g t cs) (e : cs = cs') : Blk w g t cs' := e ▸ h
end Go.Proofs.YtjhfikbjfipmkaaDoor
