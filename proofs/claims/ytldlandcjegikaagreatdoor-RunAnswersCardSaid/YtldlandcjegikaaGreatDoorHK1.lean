/- Texts that serve many laws, one behind the other. -/
import Derived.Below
import Derived.BigQuiet
import Derived.ChangeOld
import Derived.Deep.AppendLies
import Derived.Deep.Draws
import Derived.Deep.OwnRows
import Derived.Deep.QuietTactic
import Derived.Deep.RegionHeld3
import Derived.Deep.RegionLaw
import Derived.Deep.RegionWith
import Derived.Deep.Slices
import Derived.IntWalk
import Derived.Laws.AppendOwnNone
import Derived.Laws.OwnMore
import Derived.Laws.Rows
import Derived.Lib.Hide
import Derived.Lib.SliceRun
import Derived.Lib.SmallJoins
import Derived.Maps.Own
import Derived.Maps.OwnOps
import Derived.Maps.Views
import Derived.OpenShut
import Derived.ProofKit
import Derived.ShutString
import Derived.StillTailTactics
import Derived.Test.YtldlandcjegikaaGreatDoorProg
import Derived.Test.YtldlandcjegikaaGreatDoorRows
import Derived.WalkKit
import Derived.WalkLawsBesides
import Derived.WalkSpells
set_option linter.unusedVariables false
set_option linter.unusedSimpArgs false
namespace Go.Proofs.YtldlandcjegikaaGreatDoor

section
open Go.RowKit

def timeB (n : Int) : Bool := decide (-1000000000000 ≤ n) && decide (n ≤ 1000000000000)
def rightB (lo hi : Int) : Bool := decide (lo ≤ hi) && timeB lo && timeB hi
def rateB (n : Int) : Bool := decide (0 ≤ n) && decide (n ≤ 1000)
theorem timeB_iff {n : Int} : timeB n = true ↔ -1000000000000 ≤ n ∧ n ≤ 1000000000000 := by simp [timeB]
theorem rightB_iff {a b : Int} : rightB a b = true ↔ a ≤ b ∧ -1000000000000 ≤ a ∧ b ≤ 1000000000000 := by simp [rightB, timeB]; omega
theorem rateB_iff {n : Int} : rateB n = true ↔ 0 ≤ n ∧ n ≤ 1000 := by simp [rateB]
def okC (b : Bool) : Int := if b = true then 0 else 1
structure SE where
 lo : Int
 hi : Int
 c : Int
def whole (lo hi : Int) : SE := if rightB lo hi = true then ⟨lo, hi, 0⟩ else ⟨0, 0, 1⟩
def commonB (a b c d : Int) : Bool := decide (max a c ≤ min b d)
def meet (a b c d : Int) : SE := if rightB a b = true ∧ rightB c d = true then (if commonB a b c d = true then ⟨max a c, min b d, 0⟩ else ⟨0, 0, 5⟩) else ⟨0, 0, 1⟩
def hasB (a b n : Int) : Bool := rightB a b && (decide (a ≤ n) && decide (n ≤ b))
def upD (a b : Int) : Int := (a + b - 1) / b
def byP (n p : Int) : Int := upD (n * p) 1000000
theorem mul_bd {n q A B : Int} (h0 : 0 ≤ n) (h1 : n ≤ A) (h2 : 0 ≤ q) (h3 : q ≤ B) : 0 ≤ n * q ∧ n * q ≤ A * B :=
 ⟨Int.mul_nonneg h0 h2, Int.mul_le_mul h1 h3 h2 (by omega)⟩
theorem upD_bd {a b : Int} (h0 : 0 ≤ a) (h1 : 1 ≤ b) : 0 ≤ upD a b ∧ upD a b ≤ a := by
 unfold upD
 refine ⟨Int.ediv_nonneg (by omega) (by omega), ?_⟩
 rcases Int.lt_or_le 0 a with h | h
 ·have : a + b - 1 ≤ a * b := by
   have := Int.mul_nonneg (show (0:Int) ≤ a - 1 by omega) (show (0:Int) ≤ b - 1 by omega)
   have e : (a - 1) * (b - 1) = a * b - a - b + 1 := by rw [Int.sub_mul, Int.mul_sub, Int.mul_sub]; omega
   rw [e] at this; omega
  exact Int.ediv_le_of_le_mul (by omega) this
 ·have : a = 0 := by omega
  subst this
  rw [show (0 + b - 1 : Int) = b - 1 by omega]
  exact Int.le_of_eq (Int.ediv_eq_zero_of_lt (by omega) (by omega))
theorem upD_spec {a b : Int} (h1 : 1 ≤ b) : a ≤ upD a b * b ∧ upD a b * b ≤ a + b - 1 := by
 unfold upD
 have := Int.emod_add_ediv_mul (a + b - 1) b
 have := Int.emod_nonneg (a + b - 1) (show b ≠ 0 by omega)
 have := Int.emod_lt_of_pos (a + b - 1) (show 0 < b by omega)
 omega
theorem upD_mono {a a' b : Int} (h : a ≤ a') (h1 : 1 ≤ b) : upD a b ≤ upD a' b := Int.ediv_le_ediv (by omega) (by omega)
theorem byP_bd {n p : Int} (h0 : 0 ≤ n) (h1 : n ≤ 2000000000000) (h2 : 0 ≤ p) (h3 : p ≤ 3000) : 0 ≤ byP n p ∧ byP n p ≤ 6000000000 := by
 unfold byP
 have h := mul_bd h0 h1 h2 h3
 refine ⟨(upD_bd h.1 (by omega)).1, ?_⟩
 exact Int.le_trans (upD_mono h.2 (by omega)) (by decide)
def slackD (n p : Int) : Int := 2 + byP n (3 * p)
def times4B (a b c d : Int) : Bool := timeB a && (timeB b && (timeB c && timeB d))
def probeC (a b c d : Int) : Int := if times4B a b c d = true then (if d < a ∨ c < b then 3 else 0) else 1
theorem probeC_bad {t1 t2 t3 t4 : Int} (h : timeB t1 = false ∨ timeB t2 = false ∨ timeB t3 = false ∨ timeB t4 = false) : probeC t1 t2 t3 t4 = 1 := by
 unfold probeC times4B
 rcases h with h | h | h | h <;> simp [h]
theorem probeC_good {t1 t2 t3 t4 : Int} (h1 : timeB t1 = true) (h2 : timeB t2 = true) (h3 : timeB t3 = true) (h4 : timeB t4 = true) : probeC t1 t2 t3 t4 = if t4 < t1 ∨ t3 < t2 then 3 else 0 := by
 unfold probeC times4B
 simp [h1, h2, h3, h4]
def okP (t1 t4 p : Int) : Bool := rateB p && decide (t4 - t1 ≤ 1000000000000)
def offHi (t1 t2 t4 p : Int) : Int := t2 - t1 + slackD (t4 - t1) p
def offIn (t1 t2 t3 t4 p : Int) : Bool := timeB (t3 - t4) && timeB (offHi t1 t2 t4 p)
def offS (t1 t2 t3 t4 p : Int) : SE :=
 if probeC t1 t2 t3 t4 = 0 then
  (if okP t1 t4 p = true then (if offIn t1 t2 t3 t4 p = true then (if t3 - t4 ≤ offHi t1 t2 t4 p then ⟨t3 - t4, offHi t1 t2 t4 p, 0⟩ else ⟨0, 0, 7⟩) else ⟨0, 0, 1⟩) else ⟨0, 0, 1⟩)
 else ⟨0, 0, probeC t1 t2 t3 t4⟩
theorem probeC_0 {t1 t2 t3 t4 : Int} (h : probeC t1 t2 t3 t4 = 0) : timeB t1 = true ∧ timeB t2 = true ∧ timeB t3 = true ∧ timeB t4 = true ∧ t1 ≤ t4 ∧ t2 ≤ t3 := by
 unfold probeC times4B at h
 split at h
 ·rename_i g
  simp only [Bool.and_eq_true] at g
  split at h
  ·omega
  ·exact ⟨g.1, g.2.1, g.2.2.1, g.2.2.2, by omega, by omega⟩
 ·omega
theorem probeC_3 (t1 t2 t3 t4 : Int) : probeC t1 t2 t3 t4 = 0 ∨ probeC t1 t2 t3 t4 = 1 ∨ probeC t1 t2 t3 t4 = 3 := by
 unfold probeC
 split
 ·split <;> simp
 ·simp
end


section
open Go.RowKit
@[go_sem] theorem lt_p2 (n : Nat) : n < n + 1 + 1 := by omega
@[go_sem] theorem lt_p3 (n : Nat) : n < n + 1 + 1 + 1 := by omega
@[go_sem] theorem lt_p4 (n : Nat) : n < n + 1 + 1 + 1 + 1 := by omega
@[go_sem] theorem lt_p5 (n : Nat) : n < n + 1 + 1 + 1 + 1 + 1 := by omega
@[go_sem] theorem lt_p6 (n : Nat) : n < n + 1 + 1 + 1 + 1 + 1 + 1 := by omega
def errV (c : Int) : Value := if c = 0 then .nilIface else .iface 88 (.int .i64 c)
@[go_sem] theorem errV_true : errV (okC true) = .nilIface := rfl
@[go_sem] theorem errV_false : errV (okC false) = .iface 88 (.int .i64 1) := rfl
@[go_sem] theorem errV_0 : errV 0 = .nilIface := rfl
@[go_sem] theorem errV_1 : errV 1 = .iface 88 (.int .i64 1) := rfl
@[go_sem] theorem errV_2 : errV 2 = .iface 88 (.int .i64 2) := rfl
@[go_sem] theorem errV_3 : errV 3 = .iface 88 (.int .i64 3) := rfl
@[go_sem] theorem errV_4 : errV 4 = .iface 88 (.int .i64 4) := rfl
@[go_sem] theorem errV_5 : errV 5 = .iface 88 (.int .i64 5) := rfl
@[go_sem] theorem errV_6 : errV 6 = .iface 88 (.int .i64 6) := rfl
@[go_sem] theorem errV_7 : errV 7 = .iface 88 (.int .i64 7) := rfl
@[go_sem] theorem errV_8 : errV 8 = .iface 88 (.int .i64 8) := rfl
theorem errV_ne {c : Int} (h : c ≠ 0) : errV c = .iface 88 (.int .i64 c) := if_neg h
theorem ret_bool {a b : Bool} (h : a = b) : Ending.returned (.bool a) = .returned (.bool b) := by rw [h]
theorem ret_int {k : IntKind} {a b : Int} (h : a = b) : Ending.returned (.int k a) = .returned (.int k b) := by rw [h]
theorem ret_v {a b : Value} (h : a = b) : Ending.returned a = .returned b := by rw [h]
theorem bcell {W w1 : World} (hb : Below W.heap.size W w1) : (∀ b o, b < W.heap.size → w1.cell? ⟨b, o, none⟩ = W.cell? ⟨b, o, none⟩) ∧ (∀ b o, b < W.heap.size → w1.frozen? ⟨b, o, none⟩ = W.frozen? ⟨b, o, none⟩) :=
 ⟨fun b o h => hb.cell (p := ⟨b, o, none⟩) h, fun b o h => hb.frozen (p := ⟨b, o, none⟩) h⟩
theorem below_drewN {B : Nat} {a w : World} (h : Below B a w) (n : Nat) : Below B a (w.drewN n) := ⟨h.os, h.tape, h.output, h.size, h.block⟩
theorem bel_step {B : Nat} {w W w1 : World} (hb : Below W.heap.size W w1) (h : Below B w W) (hB : B ≤ W.heap.size) : Below B w w1 := h.trans (hb.mono hB)
theorem quiet_left {P : Program} {f : FuncId} {args : Array Value} {w : World} {n : Nat} {v : Value}
  (h : Calls P f args (w.drewN n) fun e w' => e = .returned v ∧ w.drewN n = w') : Calls P f args (w.drewN n) fun e w'' => e = .returned v ∧ ∃ m, w'' = w.drewN m :=
 h.mono fun _ _ ⟨he, hm⟩ => ⟨he, n, hm.symm⟩
/-! only one block, and what is new, has turned: 'grownBy w w' (some g)' -/
theorem only_setCell {a w : World} {g : Nat} (h : a.grownBy w (some g)) {p : Addr} (hp : p.block = g ∨ a.heap.size ≤ p.block) (u : Value) : a.grownBy (w.setCell p u) (some g) :=
 ⟨h.os, h.tape, h.output, by simpa [World.setCell] using h.size, fun i hi hne => (Below.heap_setCell w p u i (by
  rintro rfl
  rcases hp with hp | hp
  ·exact hne (by rw [hp])
  ·omega)).trans (h.block i hi hne)⟩
theorem only_alloc {a w : World} {row : Option Nat} (h : a.grownBy w row) (o : Obj) : a.grownBy (w.alloc o) row :=
 ⟨h.os, h.tape, h.output, Nat.le_trans h.size (by simp), fun i hi hne => (Below.heap_alloc w o i (Nat.lt_of_lt_of_le hi h.size)).trans (h.block i hi hne)⟩
theorem only_drewN {a w : World} {row : Option Nat} (h : a.grownBy w row) (n : Nat) : a.grownBy (w.drewN n) row := ⟨h.os, h.tape, h.output, h.size, h.block⟩
theorem only_cell {w w' : World} {g : Nat} (h : w.grownBy w' (some g)) {b : Nat} (hb : b < w.heap.size) (hne : b ≠ g) (o : Nat) : w'.cell? ⟨b, o, none⟩ = w.cell? ⟨b, o, none⟩ :=
 World.cell?_of_block (w := w) (h.block b hb (fun e => hne (by injection e)))
def Blk (w : World) (g : Nat) (t : TypeId) (cs : Array Value) : Prop := w.heap[g]? = some (.cells cs t (0, 0))
theorem Blk.lt {w : World} {g : Nat} {t : TypeId} {cs : Array Value} (h : Blk w g t cs) : g < w.heap.size := by
 rcases Nat.lt_or_ge g w.heap.size with hlt | hge
 ·exact hlt
 ·unfold Blk at h; rw [Array.getElem?_eq_none hge] at h; cases h
theorem Blk.cell {w : World} {g : Nat} {t : TypeId} {cs : Array Value} (h : Blk w g t cs) (i : Nat) : w.cell? ⟨g, i, none⟩ = cs[i]? := cell_of_row w g i cs t (0, 0) h
theorem Blk.fz {w : World} {g : Nat} {t : TypeId} {cs : Array Value} (h : Blk w g t cs) (i : Nat) : w.frozen? ⟨g, i, none⟩ = false := by
 unfold Blk at h
 simp [World.frozen?, h]
theorem Blk.new (w : World) (t : TypeId) (cs : Array Value) : Blk (w.alloc (.cells cs t)) w.heap.size t cs := heap_alloc_new w _
theorem Blk.drewN {w : World} {g : Nat} {t : TypeId} {cs : Array Value} (h : Blk w g t cs) (n : Nat) : Blk (w.drewN n) g t cs := h
theorem Blk.drew {w : World} {g : Nat} {t : TypeId} {cs : Array Value} (h : Blk w g t cs) : Blk w.drew g t cs := h
theorem Blk.alloc {w : World} {g : Nat} {t : TypeId} {cs : Array Value} (h : Blk w g t cs) (o : Obj) : Blk (w.alloc o) g t cs := (Below.heap_alloc w o g h.lt).trans h
theorem Blk.set {w : World} {g : Nat} {t : TypeId} {cs : Array Value} (h : Blk w g t cs) (i : Nat) (u : Value) : Blk (w.setCell ⟨g, i, none⟩ u) g t (cs.setIfInBounds i u) := by
 unfold Blk at h ⊢
 simp [World.setCell, Array.getElem?_modify, h]
theorem Blk.far {w : World} {g : Nat} {t : TypeId} {cs : Array Value} (h : Blk w g t cs) {p : Addr} (hp : g ≠ p.block) (u : Value) : Blk (w.setCell p u) g t cs := (Below.heap_setCell w p u g hp).trans h
theorem Blk.below {w w' : World} {g B : Nat} {t : TypeId} {cs : Array Value} (h : Blk w g t cs) (hb : Below B w w') (hg : g < B) : Blk w' g t cs := (hb.block g hg).trans h
theorem Blk.grown {w w' : World} {g : Nat} {t : TypeId} {cs : Array Value} {row : Option Nat} (h : Blk w g t cs) (hb : w.grownBy w' row) (hg : some g ≠ row) : Blk w' g t cs := (hb.block g h.lt hg).trans h
def Touched (g : Nat) (w w' : World) : Prop := w.grownBy w' (some g)
theorem Touched.refl (g : Nat) (w : World) : Touched g w w := World.grownBy.refl w _
theorem Touched.set {g : Nat} {w w1 : World} (h : Touched g w w1) (o : Nat) (u : Value) : Touched g w (w1.setCell ⟨g, o, none⟩ u) := only_setCell (p := ⟨g, o, none⟩) h (.inl rfl) u
theorem Touched.size {g : Nat} {w w' : World} (h : Touched g w w') : w.heap.size ≤ w'.heap.size := World.grownBy.size h
theorem Touched.cell {g : Nat} {w w' : World} (h : Touched g w w') {b : Nat} (hb : b < w.heap.size) (hne : b ≠ g) (o : Nat) : w'.cell? ⟨b, o, none⟩ = w.cell? ⟨b, o, none⟩ := only_cell h hb hne o
theorem Touched.of_below {g : Nat} {w w1 : World} (h : Below w.heap.size w w1) : Touched g w w1 := ⟨h.os, h.tape, h.output, h.size, fun i hi _ => h.block i hi⟩
theorem Touched.setp {g : Nat} {w w1 : World} (h : Touched g w w1) (p : Addr) (hp : p.block = g ∨ w.heap.size ≤ p.block) (u : Value) : Touched g w (w1.setCell p u) := only_setCell h hp u
theorem Touched.alloc {g : Nat} {w w1 : World} (h : Touched g w w1) (o : Obj) : Touched g w (w1.alloc o) := only_alloc h o
theorem Touched.drewN {g : Nat} {w w1 : World} (h : Touched g w w1) (n : Nat) : Touched g w (w1.drewN n) := only_drewN h n
theorem Touched.drew {g : Nat} {w w1 : World} (h : Touched g w w1) : Touched g w w1.drew := only_drewN h 1
theorem Touched.then {g : Nat} {w W w1 : World} (hb : Below W.heap.size W w1) (h : Touched g w W) : Touched g w w1 :=
 ⟨hb.os.trans h.os, hb.tape.trans h.tape, hb.output.trans h.output, Nat.le_trans h.size hb.size, fun i hi hne => (hb.block i (Nat.lt_of_lt_of_le hi h.size)).trans (h.block i hi hne)⟩
theorem Touched.trans {g : Nat} {w W w1 : World} (hb : Touched g W w1) (h : Touched g w W) : Touched g w w1 :=
 ⟨hb.os.trans h.os, hb.tape.trans h.tape, hb.output.trans h.output, Nat.le_trans h.size hb.size, fun i hi hne => (hb.block i (Nat.lt_of_lt_of_le hi h.size) hne).trans (h.block i hi hne)⟩
theorem Blk.conv {w : World} {g : Nat} {t : TypeId} {cs cs' : Array Value} (h : Blk w g t cs) (e : cs = cs') : Blk w g t cs' := e ▸ h
theorem BeL {B : Nat} {a w : World} (h : Below B a w := by repeat (first | with_reducible exact Below.refl _ _ | (with_reducible refine Below.alloc ?_ (by first | omega | (simp; done) | (simp; omega)) _) | (with_reducible refine Below.setCell ?_ (by first | omega | (simp; done) | (simp; omega)) _) | (with_reducible refine Below.drew ?_) | (with_reducible refine below_drewN ?_ _) | (with_reducible assumption) | (with_reducible refine bel_step (by with_reducible assumption) ?_ (by first | omega | (simp; done) | (simp; omega))))) : Below B a w := h
theorem oSo {p : Prop} (h : p := by first | omega | (simp; done) | (simp; omega)) : p := h
theorem kRf {p : Prop} (h : p := by kernel_rfl) : p := h
theorem sI_ {T : Type} {l : List T} {i : Nat} {x : T} : l.toArray.setIfInBounds i x = (l.set i x).toArray := by rw [List.setIfInBounds_toArray]
theorem sZ_ {T : Type} {a x : T} {l : List T} : (a :: l).set 0 x = x :: l := rfl
theorem sS_ {T : Type} {a x : T} {l : List T} {i : Nat} : (a :: l).set (i + 1) x = a :: l.set i x := rfl
theorem q00_ (a b : World) (h : a.heap.size < b.heap.size := by omega) : a.heap.size < b.heap.size := h
theorem q01_ (a b : World) (h : a.heap.size < b.heap.size + 1 := by omega) : a.heap.size < b.heap.size + 1 := h
theorem q02_ (a b : World) (h : a.heap.size < b.heap.size + 1 + 1 := by omega) : a.heap.size < b.heap.size + 1 + 1 := h
theorem q03_ (a b : World) (h : a.heap.size < b.heap.size + 1 + 1 + 1 := by omega) : a.heap.size < b.heap.size + 1 + 1 + 1 := h
theorem q10_ (a b : World) (h : a.heap.size + 1 < b.heap.size := by omega) : a.heap.size + 1 < b.heap.size := h
theorem q12_ (a b : World) (h : a.heap.size + 1 < b.heap.size + 1 + 1 := by omega) : a.heap.size + 1 < b.heap.size + 1 + 1 := h
theorem q13_ (a b : World) (h : a.heap.size + 1 < b.heap.size + 1 + 1 + 1 := by omega) : a.heap.size + 1 < b.heap.size + 1 + 1 + 1 := h
theorem q20_ (a b : World) (h : a.heap.size + 1 + 1 < b.heap.size := by omega) : a.heap.size + 1 + 1 < b.heap.size := h
theorem q22_ (a b : World) (h : a.heap.size + 1 + 1 < b.heap.size + 1 + 1 := by omega) : a.heap.size + 1 + 1 < b.heap.size + 1 + 1 := h
theorem q23_ (a b : World) (h : a.heap.size + 1 + 1 < b.heap.size + 1 + 1 + 1 := by omega) : a.heap.size + 1 + 1 < b.heap.size + 1 + 1 + 1 := h
theorem q30_ (a b : World) (h : a.heap.size + 1 + 1 + 1 < b.heap.size := by omega) : a.heap.size + 1 + 1 + 1 < b.heap.size := h
theorem q32_ (a b : World) (h : a.heap.size + 1 + 1 + 1 < b.heap.size + 1 + 1 := by omega) : a.heap.size + 1 + 1 + 1 < b.heap.size + 1 + 1 := h
theorem q33_ (a b : World) (h : a.heap.size + 1 + 1 + 1 < b.heap.size + 1 + 1 + 1 := by omega) : a.heap.size + 1 + 1 + 1 < b.heap.size + 1 + 1 + 1 := h
end


section
open Go.RowKit
def i64B (n : Int) : Prop := -9223372036854775808 ≤ n ∧ n ≤ 9223372036854775807
structure RSpan where
 lo : Int
 hi : Int
def RSpan.cells (a : RSpan) : List Value := [.int .i64 a.lo, .int .i64 a.hi]
def RSpan.ok (a : RSpan) : Prop := i64B a.lo ∧ i64B a.hi
structure RProbe where
 t1 : Int
 t2 : Int
 t3 : Int
 t4 : Int
structure RDate where
 year : Int
 month : Int
 day : Int
structure RPoint where
 x : Int
 y : Int
structure RAct where
 what : Int
 a : Int
 b : Int
def RAct.ok (a : RAct) : Prop := i64B a.what ∧ i64B a.a ∧ i64B a.b
structure RLeap where
 day : Int
 up : Bool
def RLeap.cells (a : RLeap) : List Value := [.int .i64 a.day, .bool a.up]
def RLeap.ok (a : RLeap) : Prop := i64B a.day
structure RLetter where
 src : Int
 dst : Int
 answer : Bool
 t1 : Int
 t2 : Int
 t : Int
def RLetter.cells (a : RLetter) : List Value := [.int .i64 a.src, .int .i64 a.dst, .bool a.answer, .int .i64 a.t1, .int .i64 a.t2, .int .i64 a.t]
def RLetter.ok (a : RLetter) : Prop := i64B a.src ∧ i64B a.dst ∧ i64B a.t1 ∧ i64B a.t2 ∧ i64B a.t
structure REdge where
 a : Int
 b : Int
 lo : Int
 hi : Int
def REdge.cells (a : REdge) : List Value := [.int .i64 a.a, .int .i64 a.b, .int .i64 a.lo, .int .i64 a.hi]
def REdge.ok (a : REdge) : Prop := i64B a.a ∧ i64B a.b ∧ i64B a.lo ∧ i64B a.hi
structure REvent where
 id : Int
 lo : Int
 hi : Int
structure RLabel where
 year : Int
 month : Int
 day : Int
 h : Int
 m : Int
 s : Int
def IsRecs {E : Type} (w : World) (cells : E → List Value) (ok : E → Prop) (k : Nat) (A : Option Addr) (n c : Nat) (zs : List E) : Prop :=
 zs.length = n ∧ n ≤ c ∧ c ≤ maxLen ∧ (∀ z ∈ zs, ok z) ∧
  (0 < n → ∃ b off, A = some ⟨b, off, none⟩ ∧ b < w.heap.size ∧ ∀ (i : Nat) z, zs[i]? = some z → ∀ (j : Nat) u, (cells z)[j]? = some u → w.cell? ⟨b, off + i * k + j, none⟩ = some u)
def intCells (n : Int) : List Value := [.int .i64 n]
def IsInts (w : World) (A : Option Addr) (n c : Nat) (zs : List Int) : Prop := IsRecs w intCells i64B 1 A n c zs
structure RInts where
 A : Option Addr
 n : Nat
 c : Nat
 zs : List Int
theorem IsRecs.keep {E : Type} {w w' : World} {cells : E → List Value} {ok : E → Prop} {k : Nat} {A : Option Addr} {n c : Nat} {zs : List E} (h : IsRecs w cells ok k A n c zs)
  (hz : w.heap.size ≤ w'.heap.size) (hk : ∀ b o, b < w.heap.size → w'.cell? ⟨b, o, none⟩ = w.cell? ⟨b, o, none⟩) : IsRecs w' cells ok k A n c zs := by
 obtain ⟨h1, h2, h3, h4, h5⟩ := h
 refine ⟨h1, h2, h3, h4, fun hn => ?_⟩
 obtain ⟨b, off, hA, hb, hc⟩ := h5 hn
 exact ⟨b, off, hA, by omega, fun i z hi j u hj => (hk b _ hb).trans (hc i z hi j u hj)⟩
theorem IsRecs.below {E : Type} {w w' : World} {cells : E → List Value} {ok : E → Prop} {k : Nat} {A : Option Addr} {n c : Nat} {zs : List E} (h : IsRecs w cells ok k A n c zs)
  (hb : Below w.heap.size w w') : IsRecs w' cells ok k A n c zs := h.keep hb.size (bcell hb).1
structure BR where
 at_ : Int
 lo : Int
 hi : Int
 c : Int
def offR (z : RProbe) (p : Int) : SE := offS z.t1 z.t2 z.t3 z.t4 p
def betterB (i : Nat) (s : SE) (lo hi : Int) : Bool := decide (i = 0) || decide (s.hi - s.lo < hi - lo)
def bestGo (p : Int) : List RProbe → Nat → Int → Int → Int → BR
 | [], _, a, lo, hi => ⟨a, lo, hi, 0⟩
 | z :: zs, i, a, lo, hi => if (offR z p).c = 0 then (if betterB i (offR z p) lo hi = true then bestGo p zs (i + 1) i (offR z p).lo (offR z p).hi else bestGo p zs (i + 1) a lo hi) else ⟨0, 0, 0, (offR z p).c⟩
end


section
open Go.ChangeShapes Go.WideShapes Go.ChangeAt Go.RowKit Go.Joins Go.Deep
open Go.ChangeMaps (open_string shut_string)
theorem own : ownKnob Tryz.prog.godebug = none := by kernel_rfl
theorem laidOut : laidOutB Tryz.prog = true := by kernel_rfl
section
variable {H : Type} {enc : TypeId × Value → H} {w : World} {base : Nat} {spare : Nat → Bool} {held : Bool} {r : Reach} {b0 : Nat}
end
end


section
open Go.RowKit
theorem Time_any (n : Int) (w : World) :
  Calls Tryz.prog 54 #[.int .i64 n] w fun e w' => e = .returned (.bool (timeB n)) ∧ w = w' := by
 go_enter Tryz.func54, Tryz.ntmps54
 go_wp2
 all_goals (go_ret; exact ⟨ret_bool (by simp [timeB]; try omega), rfl⟩)
theorem Right_any (lo hi : Int) (w : World) :
  Calls Tryz.prog 31 #[.agg #[.int .i64 lo, .int .i64 hi]] w fun e w' => e = .returned (.bool (rightB lo hi)) ∧ Below w.heap.size w w' := by
 go_enter Tryz.func31, Tryz.ntmps31
 go_wp2_with (go_at_call 54; refine (Time_any _ _).mono ?_; rintro e w' ⟨rfl, rfl⟩)
 all_goals (go_ret; exact ⟨ret_bool (by simp_all [rightB]; try omega), BeL⟩)
theorem Common_any (a b c d : Int) (w : World) :
  Calls Tryz.prog 134 #[.agg #[.int .i64 a, .int .i64 b], .agg #[.int .i64 c, .int .i64 d]] w fun e w' => e = .returned (.tuple #[.agg #[.int .i64 (max a c), .int .i64 (min b d)], .bool (commonB a b c d)]) ∧ Below w.heap.size w w' := by
 go_enter Tryz.func134, Tryz.ntmps134
 go_wp2
 all_goals
  go_region
  go_wp2
  refine bodyPost_ret (v := .tuple #[.agg #[.int .i64 (max a c), .int .i64 (min b d)], .bool (commonB a b c d)]) (by simp [results, Tryz.results134, go_sem, commonB]; repeat (any_goals (first | omega | (apply congrArg; omega)))) rfl ⟨rfl, ?_⟩
  exact BeL
theorem span_Wider (a b n : Int) (w : World) (h1 : -2000000000000 ≤ a) (h2 : a ≤ 2000000000000) (h3 : -2000000000000 ≤ b) (h4 : b ≤ 2000000000000) (h5 : 0 ≤ n) (h6 : n ≤ 2000000000000) :
  Calls Tryz.prog 161 #[.agg #[.int .i64 a, .int .i64 b], .int .i64 n] w fun e w' => e = .returned (.agg #[.int .i64 (a - n), .int .i64 (b + n)]) ∧ Below w.heap.size w w' := by
 go_enter Tryz.func161, Tryz.ntmps161
 go_wp2_with fail
 refine bodyPost_ret (v := .agg #[.int .i64 (a - n), .int .i64 (b + n)]) (by simp [results, Tryz.results161, go_sem]) rfl ⟨rfl, ?_⟩
 exact BeL
end


section
open Go.RowKit
theorem Rate_any (n : Int) (w : World) :
  Calls Tryz.prog 55 #[.int .i64 n] w fun e w' => e = .returned (.bool (rateB n)) ∧ w = w' := by
 go_enter Tryz.func55, Tryz.ntmps55
 go_wp2
 all_goals (go_ret; exact ⟨ret_bool (by simp [rateB]; try omega), rfl⟩)
theorem Up_any (a b : Int) (w : World) (h0 : 0 ≤ a) (h1 : a ≤ 4000000000000000000) (h2 : 1 ≤ b) (h3 : b ≤ 2000000) :
  Calls Tryz.prog 182 #[.int .i64 a, .int .i64 b] w fun e w' => e = .returned (.int .i64 (upD a b)) ∧ w = w' := by
 go_enter Tryz.func182, Tryz.ntmps182
 go_wp2
 go_ret
 exact ⟨rfl, rfl⟩
theorem By_any (n p : Int) (w : World) (h0 : 0 ≤ n) (h1 : n ≤ 2000000000000) (h2 : 0 ≤ p) (h3 : p ≤ 3000) :
  Calls Tryz.prog 177 #[.int .i64 n, .int .i64 p] w fun e w' => e = .returned (.int .i64 (byP n p)) ∧ w = w' := by
 obtain ⟨m1, m2⟩ := mul_bd h0 h1 h2 h3
 go_enter Tryz.func177, Tryz.ntmps177
 go_wp2_with (go_at_call 182; refine (Up_any _ _ _ (by omega) (by omega) (by omega) (by omega)).mono ?_; rintro e w' ⟨rfl, rfl⟩)
 go_ret
 exact ⟨rfl, rfl⟩
end


section
open Go.RowKit
def readV (s r t : Int) : Int := s + t + t * r / 1000000
def hasN (n : Nat) (i : Int) : Bool := decide (0 ≤ i) && decide (i < n)
theorem mul_bd2 {t r : Int} (h0 : 0 ≤ t) (h1 : t ≤ 1000000000) (h2 : -1000 ≤ r) (h3 : r ≤ 1000) : -1000000000000 ≤ t * r ∧ t * r ≤ 1000000000000 := by
 have a := Int.mul_le_mul_of_nonneg_left h3 h0
 have b := Int.mul_le_mul_of_nonneg_left h2 h0
 omega
theorem readV_bd {s r t : Int} (s0 : 0 ≤ s) (s1 : s ≤ 1000000) (h0 : 0 ≤ t) (h1 : t ≤ 1000000000) (h2 : -1000 ≤ r) (h3 : r ≤ 1000) : 0 ≤ readV s r t ∧ readV s r t ≤ 1002000000 := by
 have a := Int.mul_le_mul_of_nonneg_left h3 h0
 have b := Int.mul_le_mul_of_nonneg_left h2 h0
 unfold readV
 omega
def clocksB (p : Int) : List Int → List Int → Bool
 | s :: ss, r :: rs => decide (0 ≤ s) && (decide (s ≤ 1000000) && (decide (-p ≤ r) && (decide (r ≤ p) && clocksB p ss rs)))
 | _, _ => true
def newC (ss rs : List Int) (p : Int) : Int :=
 if rateB p = true ∧ 1 ≤ ss.length ∧ ss.length ≤ 6 then (if rs.length = ss.length then okC (clocksB p ss rs) else 3) else 1
theorem down_eq (n : Int) : (if n.tmod 1000000 < 0 then n.tdiv 1000000 - 1 else n.tdiv 1000000) = n / 1000000 := by
 have h1 := Int.mul_tdiv_add_tmod n 1000000
 have h2 : n.tmod 1000000 < 1000000 := Int.tmod_lt_of_pos n (by omega)
 have h3 : (-n).tmod 1000000 < 1000000 := Int.tmod_lt_of_pos (-n) (by omega)
 rw [Int.neg_tmod] at h3
 have h4 : 0 ≤ n → 0 ≤ n.tmod 1000000 := fun h => Int.tmod_nonneg 1000000 h
 generalize n.tdiv 1000000 = q at *
 generalize n.tmod 1000000 = r at *
 split <;> omega
theorem clocksB_step {p : Int} {ss rs : List Int} {i : Nat} {s r : Int} (hs : ss[i]? = some s) (hr : rs[i]? = some r) :
  clocksB p (ss.drop i) (rs.drop i) = (decide (0 ≤ s) && (decide (s ≤ 1000000) && (decide (-p ≤ r) && (decide (r ≤ p) && clocksB p (ss.drop (i + 1)) (rs.drop (i + 1)))))) := by
 have l1 := (List.getElem?_eq_some_iff.1 hs).1
 have l2 := (List.getElem?_eq_some_iff.1 hr).1
 have d1 : ss.drop i = s :: ss.drop (i + 1) := by rw [List.drop_eq_getElem_cons l1]; congr 1; exact (List.getElem?_eq_some_iff.1 hs).2
 have d2 : rs.drop i = r :: rs.drop (i + 1) := by rw [List.drop_eq_getElem_cons l2]; congr 1; exact (List.getElem?_eq_some_iff.1 hr).2
 rw [d1, d2, clocksB]
theorem clocksB_get {p : Int} {ss rs : List Int} (h : clocksB p ss rs = true) (hl : rs.length = ss.length) (hp : p ≤ 1000) :
  (∀ (i : Nat) z, ss[i]? = some z → 0 ≤ z ∧ z ≤ 1000000) ∧ (∀ (i : Nat) z, rs[i]? = some z → -1000 ≤ z ∧ z ≤ 1000) := by
 induction ss generalizing rs with
 | nil => simp at hl; subst hl; simp
 | cons s ss ih =>
  cases rs with
  | nil => simp at hl
  | cons r rs =>
   simp only [clocksB, Bool.and_eq_true, decide_eq_true_eq] at h
   obtain ⟨h1, h2, h3, h4, h5⟩ := h
   obtain ⟨a, b⟩ := ih h5 (by simpa using hl)
   refine ⟨fun i z hz => ?_, fun i z hz => ?_⟩
   ·cases i with
    | zero => simp at hz; subst hz; exact ⟨h1, h2⟩
    | succ i => exact a i z (by simpa using hz)
   ·cases i with
    | zero => simp at hz; subst hz; omega
    | succ i => exact b i z (by simpa using hz)
theorem newC_0 {ss rs : List Int} {p : Int} (h : newC ss rs p = 0) : rateB p = true ∧ 1 ≤ ss.length ∧ ss.length ≤ 6 ∧ rs.length = ss.length ∧ clocksB p ss rs = true := by
 unfold newC at h
 split at h
 ·rename_i g
  split at h
  ·rename_i g2
   refine ⟨g.1, g.2.1, g.2.2, g2, ?_⟩
   cases hb : clocksB p ss rs with
   | true => rfl
   | false => rw [hb] at h; simp [okC] at h
  ·omega
 ·omega
theorem clocksB_rate {p : Int} {ss rs : List Int} (h : clocksB p ss rs = true) (hl : rs.length = ss.length) : ∀ (i : Nat) z, rs[i]? = some z → -p ≤ z ∧ z ≤ p := by
 induction ss generalizing rs with
 | nil => simp at hl; subst hl; simp
 | cons s ss ih =>
  cases rs with
  | nil => simp at hl
  | cons r rs =>
   simp only [clocksB, Bool.and_eq_true, decide_eq_true_eq] at h
   obtain ⟨h1, h2, h3, h4, h5⟩ := h
   intro i z hz
   cases i with
   | zero => simp at hz; subst hz; omega
   | succ i => exact ih h5 (by simpa using hl) i z (by simpa using hz)
end


section
open Go.RowKit
theorem flat_get {E : Type} (cells : E → List Value) (k : Nat) (hk : ∀ z, (cells z).length = k) (zs : List E) (i j : Nat) (z : E) (u : Value) (hz : zs[i]? = some z) (hj : (cells z)[j]? = some u) : (zs.flatMap cells)[i * k + j]? = some u := by
 induction zs generalizing i with
 | nil => simp at hz
 | cons y zs ih =>
  rw [List.flatMap_cons]
  have hjk : j < k := by rw [← hk z]; exact (List.getElem?_eq_some_iff.1 hj).1
  cases i with
  | zero =>
   simp at hz
   subst hz
   rw [Nat.zero_mul, Nat.zero_add, List.getElem?_append_left (by rw [hk]; exact hjk)]
   exact hj
  | succ i =>
   rw [List.getElem?_append_right (by rw [hk, Nat.succ_mul]; omega), hk]
   have := ih i (by simpa using hz)
   rw [show (i + 1) * k + j - k = i * k + j by rw [Nat.succ_mul]; omega]
   exact this
theorem flat_len {E : Type} (cells : E → List Value) (k : Nat) (hk : ∀ z, (cells z).length = k) (zs : List E) : (zs.flatMap cells).length = zs.length * k := by
 induction zs with
 | nil => simp
 | cons y zs ih => rw [List.flatMap_cons, List.length_append, ih, hk, List.length_cons, Nat.succ_mul]; omega
theorem own_recs {E : Type} (cells : E → List Value) (ok : E → Prop) (k : Nat) (hk : ∀ z, (cells z).length = k) {w : World} {B : Nat} {T : TypeId} {v : Value} {zs : List E}
  (h : w.ownsRow B T k v zs.length (zs.flatMap cells)) (hok : ∀ z ∈ zs, ok z) : ∃ A n c, v = .slice A n c ∧ IsRecs w cells ok k A n c zs := by
 have hc := fun {g : Nat} (hg : v.ownBlock = some g) => h.cells hg
 rcases h.2 with ⟨rfl, hn⟩ | ⟨g, cap, cur, rfl, hb, hg, hn, hm, hs, ht⟩
 ·have : zs = [] := List.length_eq_zero_iff.1 hn
  subst this
  exact ⟨none, 0, 0, rfl, rfl, Nat.le_refl _, by unfold maxLen; omega, by simp, fun h => absurd h (by omega)⟩
 ·refine ⟨some ⟨g, 0, none⟩, zs.length, cap, rfl, rfl, hn, hm, hok, fun _ => ⟨g, 0, rfl, (Array.getElem?_eq_some_iff.1 hg).1, fun i z hz j u hj => ?_⟩⟩
  have hx := hc (g := g) rfl (i * k + j) u (flat_get cells k hk zs i j z u hz hj)
  rw [show (⟨g, 0, none⟩ : Addr).add (i * k + j) = ⟨g, 0 + i * k + j, none⟩ by unfold Addr.add; split <;> simp_all] at hx
  exact hx
theorem cell_new (w : World) (cs : List Value) (T : TypeId) : ∀ j u, cs[j]? = some u → (w.alloc (.cells cs.toArray T)).cell? ((⟨w.heap.size, 0, none⟩ : Addr).add j) = some u := by
 intro j u hj
 rw [show (⟨w.heap.size, 0, none⟩ : Addr).add j = ⟨w.heap.size, j, none⟩ by unfold Addr.add; split <;> simp_all]
 have hb := Blk.new w T cs.toArray
 rw [hb.cell j]
 simpa using hj
theorem own_below {w w' : World} {B : Nat} {T : TypeId} {k n : Nat} {v : Value} {xs : List Value} (h : w.ownsRow B T k v n xs) (hb : Below w.heap.size w w') : w'.ownsRow B T k v n xs :=
 h.kept (row := none) ⟨hb.os, hb.tape, hb.output, hb.size, fun i hi _ => hb.block i hi⟩ (by cases v.ownBlock <;> simp)
theorem own_touched {w w' : World} {g B : Nat} {T : TypeId} {k n : Nat} {v : Value} {xs : List Value} (h : w.ownsRow B T k v n xs) (ht : Touched g w w') (hg : g < B) : w'.ownsRow B T k v n xs :=
 h.kept (row := some g) ht (by
  cases hv : v.ownBlock with
  | none => exact .inl rfl
  | some q => right; intro e; cases e; have := (h.lt _ hv).1; omega)
theorem own_nil (w : World) (B : Nat) (T : TypeId) (k : Nat) : w.ownsRow B T k (.slice none 0 0) 0 [] := ⟨by simp, .inl ⟨rfl, rfl⟩⟩
theorem own_snoc {E : Type} (cells : E → List Value) {k : Nat} {w : World} {B : Nat} {T : TypeId} {v : Value} {zs : List E} {z : E}
  (h : w.ownsRow B T k v (zs.length + 1) (zs.flatMap cells ++ cells z)) : w.ownsRow B T k v (zs ++ [z]).length ((zs ++ [z]).flatMap cells) := by
 simpa using h
end


section
open Go.RowKit
theorem Blk.newAt (w : World) (t : TypeId) (cs : Array Value) (g : Nat) (h : g = w.heap.size) : Blk (w.alloc (.cells cs t)) g t cs := by subst h; exact Blk.new w t cs
def BlkG (w : World) (g : Nat) (t : TypeId) (F : Array Value → Array Value) (tgt : Array Value) : Prop := ∃ cs, Blk w g t cs ∧ F cs = tgt
theorem BlkG.start {w : World} {g : Nat} {t : TypeId} {tgt : Array Value} (h : BlkG w g t (fun cs => cs) tgt) : Blk w g t tgt := by
 obtain ⟨cs, h1, h2⟩ := h
 simp only [] at h2
 rw [← h2]; exact h1
theorem BlkG.done {w : World} {g : Nat} {t : TypeId} {F : Array Value → Array Value} {tgt cs : Array Value} (h : Blk w g t cs) (e : F cs = tgt) : BlkG w g t F tgt := ⟨cs, h, e⟩
theorem BlkG.set {w : World} {g : Nat} {t : TypeId} {F : Array Value → Array Value} {tgt : Array Value} {i : Nat} {u : Value} (h : BlkG w g t (fun cs => F (cs.setIfInBounds i u)) tgt) : BlkG (w.setCell ⟨g, i, none⟩ u) g t F tgt := by
 obtain ⟨cs, h1, h2⟩ := h
 exact ⟨_, h1.set i u, h2⟩
theorem BlkG.far {w : World} {g : Nat} {t : TypeId} {F : Array Value → Array Value} {tgt : Array Value} {b i : Nat} {e : Option Nat} {u : Value} (hb : g ≠ b) (h : BlkG w g t F tgt) : BlkG (w.setCell ⟨b, i, e⟩ u) g t F tgt := by
 obtain ⟨cs, h1, h2⟩ := h
 exact ⟨_, h1.far hb u, h2⟩
theorem BlkG.alloc {w : World} {g : Nat} {t : TypeId} {F : Array Value → Array Value} {tgt : Array Value} {o : Obj} (h : BlkG w g t F tgt) : BlkG (w.alloc o) g t F tgt := by
 obtain ⟨cs, h1, h2⟩ := h
 exact ⟨_, h1.alloc o, h2⟩
theorem BlkG.drew {w : World} {g : Nat} {t : TypeId} {F : Array Value → Array Value} {tgt : Array Value} (h : BlkG w g t F tgt) : BlkG w.drew g t F tgt := h
theorem BlkG.drewN {w : World} {g : Nat} {t : TypeId} {F : Array Value → Array Value} {tgt : Array Value} {n : Nat} (h : BlkG w g t F tgt) : BlkG (w.drewN n) g t F tgt := h
theorem BlkG.bel {w w' : World} {g B : Nat} {t : TypeId} {F : Array Value → Array Value} {tgt : Array Value} (hb : Below B w w') (hg : g < B) (h : BlkG w g t F tgt) : BlkG w' g t F tgt := by
 obtain ⟨cs, h1, h2⟩ := h
 exact ⟨_, h1.below hb hg, h2⟩
theorem BlkG.newAt {w : World} {g : Nat} {t : TypeId} {F : Array Value → Array Value} {tgt cs : Array Value} (hg : g = w.heap.size) (e : F cs = tgt) : BlkG (w.alloc (.cells cs t)) g t F tgt := ⟨cs, Blk.newAt w t cs g hg, e⟩
theorem BkD {w : World} {g : Nat} {t : TypeId} {a : Array Value} (h : Blk w g t a := by refine BlkG.start ?_; (repeat (first | ((with_reducible apply BlkG.done); (with_reducible assumption); exact rfl) | (with_reducible exact BlkG.newAt (by first | (with_reducible rfl) | omega | (simp; done) | (simp; omega)) rfl) | (with_reducible refine BlkG.drew ?_) | (with_reducible refine BlkG.drewN ?_) | (with_reducible refine BlkG.set ?_) | (with_reducible refine BlkG.far (by first | omega | (simp; done) | (simp; omega)) ?_) | (with_reducible refine BlkG.alloc ?_) | (with_reducible refine BlkG.bel (by with_reducible assumption) (by first | omega | (simp; done) | (simp; omega)) ?_)))) : Blk w g t a := h
end


section
open Go.RowKit
def putL : Array Value → Nat → List Value → Array Value
 | cs, _, [] => cs
 | cs, o, v :: r => putL (cs.setIfInBounds o v) (o + 1) r
theorem putL_size : ∀ (vs : List Value) (cs : Array Value) (o : Nat), (putL cs o vs).size = cs.size
 | [], _, _ => rfl
 | v :: r, cs, o => by show (putL (cs.setIfInBounds o v) (o + 1) r).size = _; rw [putL_size r, Array.size_setIfInBounds]
theorem putL_get : ∀ (vs : List Value) (cs : Array Value) (o i : Nat), (putL cs o vs)[i]? = if o ≤ i ∧ i < o + vs.length ∧ i < cs.size then vs[i - o]? else cs[i]?
 | [], cs, o, i => by rw [if_neg (by simp only [List.length_nil]; omega)]; rfl
 | v :: r, cs, o, i => by
  show (putL (cs.setIfInBounds o v) (o + 1) r)[i]? = _
  rw [putL_get r, Array.size_setIfInBounds]
  simp only [List.length_cons]
  by_cases h : o + 1 ≤ i ∧ i < o + 1 + r.length ∧ i < cs.size
  ·rw [if_pos h, if_pos (by omega), show i - o = (i - (o + 1)) + 1 by omega, List.getElem?_cons_succ]
  ·rw [if_neg h, Array.getElem?_setIfInBounds]
   by_cases e : o = i
   ·subst e
    rw [if_pos rfl]
    by_cases hs : o < cs.size
    ·rw [if_pos hs, if_pos (by omega), Nat.sub_self, List.getElem?_cons_zero]
    ·rw [if_neg hs, if_neg (by omega), Array.getElem?_eq_none (by omega)]
   ·rw [if_neg e, if_neg (by omega)]
theorem Blk.setCells {g : Nat} {t : TypeId} : ∀ (vs : List Value) (o : Nat) (w : World) (cs : Array Value), Blk w g t cs → Blk (w.setCells g o vs) g t (putL cs o vs)
 | [], _, _, _, h => h
 | v :: r, o, w, cs, h => Blk.setCells r (o + 1) _ _ (h.set o v)
theorem Touched.setCells {g : Nat} {w : World} : ∀ (vs : List Value) (o : Nat) (w1 : World), Touched g w w1 → Touched g w (w1.setCells g o vs)
 | [], _, _, h => h
 | v :: r, o, w1, h => Touched.setCells r (o + 1) _ (h.set o v)
theorem flat_lenK {E : Type} (cells : E → List Value) (k : Nat) (hk : ∀ z, (cells z).length = k) : ∀ zs : List E, (zs.flatMap cells).length = zs.length * k
 | [] => by simp
 | z :: r => by rw [List.flatMap_cons, List.length_append, hk, flat_lenK cells k hk r, List.length_cons, Nat.succ_mul]; omega
theorem flat_drop {E : Type} (cells : E → List Value) (k : Nat) (hk : ∀ z, (cells z).length = k) : ∀ (zs : List E) (i : Nat), (zs.drop i).flatMap cells = (zs.flatMap cells).drop (i * k)
 | [], i => by simp
 | z :: r, 0 => by simp
 | z :: r, i + 1 => by
  rw [List.drop_succ_cons, flat_drop cells k hk r i, List.flatMap_cons, Nat.succ_mul, Nat.add_comm, ← List.drop_drop, List.drop_left' (hk z)]
theorem flat_take {E : Type} (cells : E → List Value) (k : Nat) (hk : ∀ z, (cells z).length = k) : ∀ (zs : List E) (i : Nat), (zs.take i).flatMap cells = (zs.flatMap cells).take (i * k)
 | [], i => by simp
 | z :: r, 0 => by simp
 | z :: r, i + 1 => by
  rw [List.take_succ_cons, List.flatMap_cons, flat_take cells k hk r i, List.flatMap_cons, Nat.succ_mul, Nat.add_comm, ← hk z, List.take_length_add_append]
theorem del_cells {cur : Array Value} {L zr : List Value} {n i k cap : Nat} (hi : i < n) (hL : L.length = n * k) (hs : cur.size = cap * k) (hn : n ≤ cap) (ht : cur.toList.take (n * k) = L) (hz : zr.length = k) :
  (putL (putL cur (i * k) (L.drop ((i + 1) * k))) ((n - 1) * k) zr).toList.take ((n - 1) * k) = L.take (i * k) ++ L.drop ((i + 1) * k) := by
 have h1 : (i + 1) * k ≤ n * k := Nat.mul_le_mul_right _ (by omega)
 have h2 : n * k ≤ cap * k := Nat.mul_le_mul_right _ hn
 have h3 : (n - 1) * k + k = n * k := by
  obtain ⟨m, rfl⟩ : ∃ m, n = m + 1 := ⟨n - 1, by omega⟩
  rw [Nat.succ_mul]; simp
 have h4 : (i + 1) * k = i * k + k := Nat.succ_mul _ _
 have hL2 : ∀ j, j < n * k → cur[j]? = L[j]? := fun j hj => by
  rw [← ht, List.getElem?_take, if_pos hj, Array.getElem?_toList]
 apply List.ext_getElem?
 intro j
 rw [List.getElem?_take]
 by_cases c : j < (n - 1) * k
 ·rw [if_pos c, Array.getElem?_toList, putL_get, if_neg (by omega), putL_get, List.length_drop, List.getElem?_append, List.length_take, hL]
  by_cases d : i * k ≤ j
  ·rw [if_pos (by omega), if_neg (by omega)]
   congr 1; omega
  ·rw [if_neg (by omega), if_pos (by omega), List.getElem?_take, if_pos (by omega), hL2 j (by omega)]
 ·rw [if_neg c, List.getElem?_eq_none]
  rw [List.length_append, List.length_take, List.length_drop, hL]; omega
theorem letter_one (z : RLetter) : ∀ u ∈ RLetter.cells z, u.oneCell' = true := by
 intro u hu
 simp [RLetter.cells] at hu
 rcases hu with rfl | rfl | rfl | rfl | rfl | rfl <;> rfl
theorem infoLt : (Tryz.prog.info? 110).map (fun i => (i.zero, i.size, i.bytes)) = some (some (.agg #[.int .i64 0, .int .i64 0, .bool false, .int .i64 0, .int .i64 0, .int .i64 0]), 6, 48) := by kernel_rfl
def zeroLt : List Value := [.int .i64 0, .int .i64 0, .bool false, .int .i64 0, .int .i64 0, .int .i64 0]
theorem clear_one (w : World) (ty : TypeId) (b o c : Nat) (hc : ∀ j, j < 6 → (w.cell? ⟨b, o + j, none⟩).isSome = true) (hf : ∀ j, j < 6 → w.frozen? ⟨b, o + j, none⟩ = false) :
  (Builtin.clear_ #[58] ty #[.slice (some ⟨b, o, none⟩) 1 c]).run Tryz.prog w = .ok (.tuple #[]) (w.setCells b o zeroLt) := by
 have hv : ∀ w, (zeroValue 110).run Tryz.prog w = .ok (.agg #[.int .i64 0, .int .i64 0, .bool false, .int .i64 0, .int .i64 0, .int .i64 0]) w := fun _ => by kernel_rfl
 have hzc : (Builtin.zeroCells (Value.agg #[.int .i64 0, .int .i64 0, .bool false, .int .i64 0, .int .i64 0, .int .i64 0]).cells 1).toList = zeroLt := by kernel_rfl
 have hst := run_storeCells_cells (P := Tryz.prog) b o zeroLt 0 w (by simpa [zeroLt] using hc) (by simpa [zeroLt] using hf) (by intro v hv'; simp only [zeroLt, List.mem_cons, List.not_mem_nil, or_false] at hv'; rcases hv' with rfl | rfl | rfl | rfl | rfl | rfl <;> rfl)
 simp only [Nat.add_zero] at hst
 simp [Builtin.clear_, run_underlying Tryz.underlying58, hv, hzc, hst]
set_option maxRecDepth 100000 in
set_option maxHeartbeats 4000000 in
theorem letters_Delete (g n cap i B : Nat) (zs : List RLetter) (w : World) (ho : w.ownsRow B 110 6 (.slice (some ⟨g, 0, none⟩) n cap) n (zs.flatMap RLetter.cells)) (hz : zs.length = n) (hi : i < n) (hn : n ≤ 1000) :
  Calls Tryz.prog 131 #[.slice (some ⟨g, 0, none⟩) n cap, .int .i64 i, .int .i64 ((i : Int) + 1)] w fun e w' => e = .returned (.slice (some ⟨g, 0, none⟩) (n - 1) cap) ∧ w'.ownsRow B 110 6 (.slice (some ⟨g, 0, none⟩) (n - 1) cap) (n - 1) ((zs.eraseIdx i).flatMap RLetter.cells) ∧ Touched g w w' := by
 obtain ⟨i0, hi0, hz0, hz1, hz2⟩ := info_parts infoLt
 obtain ⟨hlen, hrow⟩ := ho
 rcases hrow with ⟨h, _⟩ | ⟨g', cap', cur, he, hB, hg, hnc, hcm, hsz, htk⟩
 ·cases h
 simp only [Value.slice.injEq, Option.some.injEq, Addr.mk.injEq, and_true, true_and] at he
 obtain ⟨rfl, rfl⟩ := he
 obtain ⟨L, hL⟩ : ∃ L, zs.flatMap RLetter.cells = L := ⟨_, rfl⟩
 rw [hL] at hlen htk
 have hk : ∀ z : RLetter, (RLetter.cells z).length = 6 := fun _ => rfl
 have hbk : Blk w g 110 cur := hg
 have hfin := del_cells (zr := zeroLt) hi hlen hsz hnc htk rfl
 have hend : L.take (i * 6) ++ L.drop ((i + 1) * 6) = (zs.eraseIdx i).flatMap RLetter.cells := by
  rw [List.eraseIdx_eq_take_drop_succ, List.flatMap_append, flat_take _ 6 hk, flat_drop _ 6 hk, hL]
 obtain ⟨news, hnews⟩ : ∃ news, L.drop ((i + 1) * 6) = news := ⟨_, rfl⟩
 have hnl : news.length = (n - (i + 1)) * 6 := by rw [← hnews, List.length_drop, hlen]; omega
 have hone : ∀ u ∈ news, u.oneCell' = true := fun u hu => by
  rw [← hnews] at hu
  have h1 := List.mem_of_mem_drop hu
  rw [← hL] at h1
  obtain ⟨z, _, h2⟩ := List.mem_flatMap.1 h1
  exact letter_one z u h2
 unfold maxLen at hcm
 have hcur : ∀ j, j < n * 6 → cur[j]? = L[j]? := fun j hj => by rw [← htk, List.getElem?_take, if_pos hj, Array.getElem?_toList]
 obtain ⟨A, hA, hsrc⟩ : ∃ A : Addr, (if cap = i + 1 then some (⟨g, 0, none⟩ : Addr) else some ⟨g, (i + 1) * 6, none⟩) = some A ∧ (∀ t u, news[t]? = some u → w.drew.cell? (A.add t) = some u) := by
  by_cases h : cap = i + 1
  ·refine ⟨⟨g, 0, none⟩, by simp [h], fun t u hu => ?_⟩
   have h0 : news.length = 0 := by omega
   rw [List.length_eq_zero_iff.1 h0] at hu
   simp at hu
  ·refine ⟨⟨g, (i + 1) * 6, none⟩, by simp [h], fun t u hu => ?_⟩
   have ht : t < news.length := (List.getElem?_eq_some_iff.1 hu).1
   rw [← hnews, List.getElem?_drop] at hu
   rw [show (⟨g, (i + 1) * 6, none⟩ : Addr).add t = ⟨g, (i + 1) * 6 + t, none⟩ by unfold Addr.add; split <;> simp_all]
   show w.cell? _ = _
   rw [hbk.cell, hcur _ (by omega)]
   exact hu
 have hsp : ∀ j, j < news.length → (w.drew.cell? ⟨g, 0 + i * 6 + j, none⟩).isSome = true ∧ w.drew.frozen? ⟨g, 0 + i * 6 + j, none⟩ = false := fun j hj => by
  constructor
  ·show (w.cell? _).isSome = true
   rw [hbk.cell, Array.getElem?_eq_getElem (by omega)]; rfl
  ·exact hbk.fz _
 obtain ⟨W1, hW1⟩ : ∃ W1, W1 = w.drew.setCells g (0 + i * 6) news := ⟨_, rfl⟩
 have hb1 : Blk W1 g 110 (putL cur (i * 6) news) := by rw [hW1, Nat.zero_add]; exact Blk.setCells news _ _ _ hbk.drew
 have ht1 : Touched g w W1 := by rw [hW1]; exact Touched.setCells news _ _ (Touched.refl g w).drew
 have hcl : ∀ ty, (Builtin.clear_ #[58] ty #[.slice (some ⟨g, (n - 1) * 6, none⟩) 1 (cap - (n - 1))]).run Tryz.prog W1 = .ok (.tuple #[]) (W1.setCells g ((n - 1) * 6) zeroLt) := fun ty => clear_one W1 ty g ((n - 1) * 6) (cap - (n - 1))
  (fun j hj => by rw [hb1.cell, Array.getElem?_eq_getElem (by rw [putL_size]; omega)]; rfl) (fun j hj => hb1.fz _)
 have hb2 : Blk (W1.setCells g ((n - 1) * 6) zeroLt) g 110 (putL (putL cur (i * 6) news) ((n - 1) * 6) zeroLt) := Blk.setCells zeroLt _ _ _ hb1
 have ht2 : Touched g w (W1.setCells g ((n - 1) * 6) zeroLt) := Touched.setCells zeroLt _ _ ht1
 rw [hnews] at hfin hend
 have hrow : (W1.setCells g ((n - 1) * 6) zeroLt).ownsRow B 110 6 (.slice (some ⟨g, 0, none⟩) (n - 1) cap) (n - 1) ((zs.eraseIdx i).flatMap RLetter.cells) := by
  refine ⟨?_, .inr ⟨g, cap, _, rfl, hB, hb2, by omega, by unfold maxLen; omega, by rw [putL_size, putL_size]; exact hsz, by rw [hfin]; exact hend⟩⟩
  rw [← hend, List.length_append, List.length_take, hnl, hlen]; omega
 have HR := Lib.hid hrow
 have HT := Lib.hid ht2
 have HW := Lib.hid hW1
 have HS := Lib.hid hsrc
 have HP := Lib.hid hsp
 have HO := Lib.hid hone
 have HN := Lib.hid hnl
 have q0 : i ≤ cap := by omega
 have q1 : i + 1 ≤ cap := by omega
 have q2 : i + 1 ≤ n := by omega
 have q3 : (0 : Int) ≤ (i : Int) + 1 := by omega
 have q4 : (i : Int) + 1 ≤ (n : Int) := by omega
 have q5 : (0 : Int) ≤ (i : Int) := by omega
 have q6 : (i : Int) ≤ (cap : Int) := by omega
 have be : ((i : Int) == (i : Int) + 1) = false := by simp; omega
 obtain ⟨p, hp⟩ : ∃ p, n - 1 = p := ⟨_, rfl⟩
 have he0 : i + (n - (i + 1)) = p := by omega
 have he1 : n - p = 1 := by omega
 have q7 : (0 : Int) ≤ (p : Int) := by omega
 have q8 : (p : Int) ≤ (n : Int) := by omega
 have q9 : (n : Int) ≤ (cap : Int) := by omega
 have q10 : ¬ cap = p := by omega
 have q11 : p ≤ n := by omega
 have q12 : n ≤ cap := hnc
 rw [hp] at hcl HR HT ⊢
 clear hrow ht2 hW1 hsrc hsp hone hnl hfin hend hb1 hb2 ht1 hnews hcur hbk hg htk hsz hL hlen hz
 go_enter Tryz.func131, Tryz.ntmps131
 go_wp2_with fail
 go_region_law (refine step_append_room rfl (.tmp 22) (.tmp 25) 58 rfl 110 i0 6 Tryz.underlying58 hi0 hz1 g 0 i cap (by simp [Act.eval, Act.put]) A (n - (i + 1)) (cap - (i + 1)) news (by simp [Act.eval, Act.put]) HN.out HS.out HO.out (by omega) HP.out ?_; rw [← HW.out])
 go_wp2_with fail
 go_ret
 exact ⟨rfl, HR.out, HT.out⟩
end


section
open Go.RowKit
structure Kept (P : Nat → Prop) (w w' : World) : Prop where
 os : w'.os = w.os
 tape : w'.tape = w.tape
 output : w'.output = w.output
 size : w.heap.size ≤ w'.heap.size
 block : ∀ k, k < w.heap.size → ¬ P k → w'.heap[k]? = w.heap[k]?
theorem Kept.refl (P : Nat → Prop) (w : World) : Kept P w w := ⟨rfl, rfl, rfl, Nat.le_refl _, fun _ _ _ => rfl⟩
theorem Kept.below {P : Nat → Prop} {w W w1 : World} (h : Kept P w W) (hb : Below W.heap.size W w1) : Kept P w w1 :=
 ⟨hb.os.trans h.os, hb.tape.trans h.tape, hb.output.trans h.output, Nat.le_trans h.size hb.size, fun k hk hp => (hb.block k (Nat.lt_of_lt_of_le hk h.size)).trans (h.block k hk hp)⟩
theorem Kept.grown {P : Nat → Prop} {w W w1 : World} {row : Option Nat} (h : Kept P w W) (hg : W.grownBy w1 row) (hr : ∀ k, row = some k → P k ∨ w.heap.size ≤ k) : Kept P w w1 :=
 ⟨hg.os.trans h.os, hg.tape.trans h.tape, hg.output.trans h.output, Nat.le_trans h.size hg.size, fun k hk hp => (hg.block k (Nat.lt_of_lt_of_le hk h.size) (fun e => by rcases hr k e.symm with h1 | h1; exact hp h1; omega)).trans (h.block k hk hp)⟩
theorem Kept.alloc {P : Nat → Prop} {w W : World} (h : Kept P w W) (o : Obj) : Kept P w (W.alloc o) := h.below ((Below.refl _ W).alloc (Nat.le_refl _) o)
theorem Kept.drewN {P : Nat → Prop} {w W : World} (h : Kept P w W) (n : Nat) : Kept P w (W.drewN n) := ⟨h.os, h.tape, h.output, h.size, h.block⟩
theorem Kept.drew {P : Nat → Prop} {w W : World} (h : Kept P w W) : Kept P w W.drew := ⟨h.os, h.tape, h.output, h.size, h.block⟩
theorem Kept.touched {P : Nat → Prop} {w W w1 : World} {g : Nat} (h : Kept P w W) (ht : Touched g W w1) (hg : P g ∨ w.heap.size ≤ g) : Kept P w w1 :=
 h.grown ht (fun k e => by cases e; exact hg)
theorem Kept.set {P : Nat → Prop} {w W : World} (h : Kept P w W) (g o : Nat) (u : Value) (hg : P g ∨ w.heap.size ≤ g) : Kept P w (W.setCell ⟨g, o, none⟩ u) :=
 h.touched ((Touched.refl g W).set o u) hg
theorem Kept.trans {P P' : Nat → Prop} {w W w1 : World} (h : Kept P w W) (h' : Kept P' W w1) (hp : ∀ k, P' k → P k ∨ w.heap.size ≤ k) : Kept P w w1 :=
 ⟨h'.os.trans h.os, h'.tape.trans h.tape, h'.output.trans h.output, Nat.le_trans h.size h'.size, fun k hk hn => (h'.block k (Nat.lt_of_lt_of_le hk h.size) (fun e => by rcases hp k e with h1 | h1; exact hn h1; omega)).trans (h.block k hk hn)⟩
theorem Kept.toBelow {P : Nat → Prop} {w w' : World} (h : Kept P w w') {B : Nat} (hB : B ≤ w.heap.size) (hp : ∀ k, P k → B ≤ k) : Below B w w' := by
 refine ⟨h.os, h.tape, h.output, h.size, fun k hk => h.block k (by omega) (fun e => by have := hp k e; omega)⟩
theorem own_slice {w : World} {B : Nat} {T : TypeId} {k n : Nat} {v : Value} {xs : List Value} (h : w.ownsRow B T k v n xs) : ∃ A c, v = .slice A n c ∧ n ≤ c ∧ c ≤ maxLen := by
 rcases h.2 with ⟨rfl, rfl⟩ | ⟨g, cap, cur, rfl, hB, hg, hn, hm, hs, ht⟩
 ·exact ⟨none, 0, rfl, Nat.le_refl _, by unfold maxLen; omega⟩
 ·exact ⟨_, cap, rfl, hn, hm⟩
end


section
open Go.RowKit
theorem take_d {P : Program} {ops : Array Oper} {Q : Exit → Act → World → Prop} {md : Region.Mode} {S : World → Prop} {i : Nat} {oi : Oper} {v : Value} {d : Option Tmp} {fuel : Nat} {listed : Array Bool} {a : Act} {w : World} (hi : ops[i]? = some oi)
  (hs : Region.noSelect ops = true) (hf : Region.free md ops listed i = true) (hr : (Region.ready md ops listed).contains i = true) (hd : oi.dst = d)
  (hQ : ∀ c a w, Q (.panic c) (a.put d v) w → Q (.panic c) a w) (hy : YieldsIf P ops S oi v a) (hS : S w)
  (h : wpAnyH P md ops Q S fuel (listed.setIfInBounds i true) (a.put d v) w) : wpAnyH P md ops Q S (fuel + 1) listed a w := by
 subst hd
 exact wpAnyH_take hi hs hf hr hQ hy hS h
theorem tkK {P : Program} {ops : Array Oper} {Q : Exit → Act → World → Prop} {md : Region.Mode} {S : World → Prop} {oi : Oper} {fuel : Nat} {listed : Array Bool} {a : Act} {w : World} (i : Nat) (v : Value) (d : Option Tmp) (hi : ops[i]? = some oi) (hS : S w) (h : wpAnyH P md ops Q S fuel (listed.setIfInBounds i true) (a.put d v) w) (hs : Region.noSelect ops = true := by kernel_rfl) (hf : Region.free md ops listed i = true := by kernel_rfl) (hr : (Region.ready md ops listed).contains i = true := by kernel_rfl) (hd : oi.dst = d := by kernel_rfl) (hQ : ∀ c a w, Q (.panic c) (a.put d v) w → Q (.panic c) a w := by exact fun _ _ _ h => h) (hy : YieldsIf P ops S oi v a := by exact Or.inl ⟨by kernel_rfl, fun _ _ => by kernel_rfl⟩) : wpAnyH P md ops Q S (fuel + 1) listed a w := take_d hi hs hf hr hd hQ hy hS h
theorem tkG {P : Program} {ops : Array Oper} {Q : Exit → Act → World → Prop} {md : Region.Mode} {S : World → Prop} {oi : Oper} {fuel : Nat} {listed : Array Bool} {a : Act} {w : World} (i : Nat) (v : Value) (d : Option Tmp) (hi : ops[i]? = some oi) (hy : ∀ w, S w → (execOp a.eval oi).run P w = .ok (.value v) w) (hS : S w) (h : wpAnyH P md ops Q S fuel (listed.setIfInBounds i true) (a.put d v) w) (hs : Region.noSelect ops = true := by kernel_rfl) (hf : Region.free md ops listed i = true := by kernel_rfl) (hr : (Region.ready md ops listed).contains i = true := by kernel_rfl) (hd : oi.dst = d := by kernel_rfl) (hQ : ∀ c a w, Q (.panic c) (a.put d v) w → Q (.panic c) a w := by exact fun _ _ _ h => h) (hg : Region.wanted oi (yielded ops a.tmps) = true := by kernel_rfl) : wpAnyH P md ops Q S (fuel + 1) listed a w := take_d hi hs hf hr hd hQ (Or.inl ⟨hg, hy⟩) hS h
theorem tkH {P : Program} {ops : Array Oper} {Q : Exit → Act → World → Prop} {md : Region.Mode} {S : World → Prop} {oi : Oper} {fuel : Nat} {listed : Array Bool} {a : Act} {w : World} (i : Nat) (v : Value) (d : Option Tmp) (hi : ops[i]? = some oi) (hS : S w) (h : wpAnyH P md ops Q S fuel (listed.setIfInBounds i true) (a.put d v) w) (hs : Region.noSelect ops = true := by kernel_rfl) (hf : Region.free md ops listed i = true := by kernel_rfl) (hr : (Region.ready md ops listed).contains i = true := by kernel_rfl) (hd : oi.dst = d := by kernel_rfl) (hQ : ∀ c a w, Q (.panic c) (a.put d v) w → Q (.panic c) a w := by exact fun _ _ _ h => h) (hg : Region.wanted oi (yielded ops a.tmps) = true := by kernel_rfl) (hy : ∀ w, S w → (execOp a.eval oi).run P w = .ok (.value v) w := by intro w9 hw9; go_simp) : wpAnyH P md ops Q S (fuel + 1) listed a w := take_d hi hs hf hr hd hQ (Or.inl ⟨hg, hy⟩) hS h
theorem tkE {P : Program} {ops : Array Oper} {Q : Exit → Act → World → Prop} {md : Region.Mode} {S : World → Prop} {oi : Oper} {fuel : Nat} {listed : Array Bool} {a : Act} {w : World} (i : Nat) (v : Value) (d : Option Tmp) (hi : ops[i]? = some oi) (hy : YieldsIf P ops S oi v a) (hS : S w) (h : wpAnyH P md ops Q S fuel (listed.setIfInBounds i true) (a.put d v) w) (hs : Region.noSelect ops = true := by kernel_rfl) (hf : Region.free md ops listed i = true := by kernel_rfl) (hr : (Region.ready md ops listed).contains i = true := by kernel_rfl) (hd : oi.dst = d := by kernel_rfl) (hQ : ∀ c a w, Q (.panic c) (a.put d v) w → Q (.panic c) a w := by exact fun _ _ _ h => h) : wpAnyH P md ops Q S (fuel + 1) listed a w := take_d hi hs hf hr hd hQ hy hS h
end


section
open Go.RowKit
def ICells (xs : List Int) : Array Value := (xs.map (Value.int .i64)).toArray
def BCells (bs : List Bool) : Array Value := (bs.map Value.bool).toArray
theorem made_i (n : Nat) : madeCells #[.int .i64 0] n = ICells (List.replicate n 0) := by
 apply Array.ext'
 rw [toList_madeCells_one]
 simp [ICells]
theorem made_b (n : Nat) : madeCells #[.bool false] n = BCells (List.replicate n false) := by
 apply Array.ext'
 rw [toList_madeCells_one]
 simp [BCells]
theorem Blk.iset {w : World} {g : Nat} {t : TypeId} {xs : List Int} (h : Blk w g t (ICells xs)) (i : Nat) (v : Int) : Blk (w.setCell ⟨g, i, none⟩ (.int .i64 v)) g t (ICells (xs.set i v)) := by
 have := h.set i (.int .i64 v)
 unfold ICells at this ⊢
 rw [List.setIfInBounds_toArray, ← List.map_set] at this
 exact this
theorem Blk.bset {w : World} {g : Nat} {t : TypeId} {xs : List Bool} (h : Blk w g t (BCells xs)) (i : Nat) (v : Bool) : Blk (w.setCell ⟨g, i, none⟩ (.bool v)) g t (BCells (xs.set i v)) := by
 have := h.set i (.bool v)
 unfold BCells at this ⊢
 rw [List.setIfInBounds_toArray, ← List.map_set] at this
 exact this
theorem Blk.iat {w : World} {g : Nat} {t : TypeId} {xs : List Int} (h : Blk w g t (ICells xs)) {i : Nat} {v : Int} (hv : xs[i]? = some v) : w.cell? ⟨g, i, none⟩ = some (.int .i64 v) := by
 rw [h.cell]
 unfold ICells
 rw [List.getElem?_toArray, List.getElem?_map, hv]
 rfl
theorem Blk.bat {w : World} {g : Nat} {t : TypeId} {xs : List Bool} (h : Blk w g t (BCells xs)) {i : Nat} {v : Bool} (hv : xs[i]? = some v) : w.cell? ⟨g, i, none⟩ = some (.bool v) := by
 rw [h.cell]
 unfold BCells
 rw [List.getElem?_toArray, List.getElem?_map, hv]
 rfl
def boolCells (b : Bool) : List Value := [.bool b]
def IsBools (w : World) (A : Option Addr) (n c : Nat) (zs : List Bool) : Prop := IsRecs w boolCells (fun _ => True) 1 A n c zs
theorem Blk.bools {w : World} {g : Nat} {t : TypeId} {xs : List Bool} (h : Blk w g t (BCells xs)) {n : Nat} (hl : xs.length = n) (hm : n ≤ maxLen) : IsBools w (some ⟨g, 0, none⟩) n n xs := by
 refine ⟨hl, Nat.le_refl _, hm, fun _ _ => trivial, fun _ => ⟨g, 0, rfl, h.lt, fun i z hz j u hj => ?_⟩⟩
 have hj0 : j = 0 := by
  have := (List.getElem?_eq_some_iff.1 hj).1
  simp [boolCells] at this; omega
 subst hj0
 simp [boolCells] at hj
 subst hj
 have := h.bat hz
 simpa using this
theorem cell_newAt (w : World) (cs : List Value) (T : TypeId) (m : Nat) (h : w.heap.size = m) : ∀ j u, cs[j]? = some u → (w.alloc (.cells cs.toArray T)).cell? ((⟨m, 0, none⟩ : Addr).add j) = some u := by
 subst h; exact cell_new w cs T
theorem int_one (z : Int) : ∀ u ∈ intCells z, u.oneCell' = true := by intro u hu; simp [intCells] at hu; subst hu; rfl
theorem own_ints {w : World} {B : Nat} {T : TypeId} {v : Value} {xs : List Int} (ho : w.ownsRow B T 1 v xs.length (xs.flatMap intCells)) (h0 : 0 < xs.length) : ∃ q cap, v = .slice (some ⟨q, 0, none⟩) xs.length cap ∧ B ≤ q ∧ q < w.heap.size ∧ xs.length ≤ cap ∧ cap ≤ maxLen ∧ ∀ (i : Nat) z, xs[i]? = some z → w.cell? ⟨q, i, none⟩ = some (.int .i64 z) := by
 have hc := fun {g : Nat} (hg : v.ownBlock = some g) => ho.cells hg
 rcases ho.2 with ⟨rfl, hn⟩ | ⟨g, cap, cur, rfl, hbb, hg, hn, hm, hs, ht⟩
 ·omega
 ·refine ⟨g, cap, rfl, hbb, (Array.getElem?_eq_some_iff.1 hg).1, hn, hm, fun i z hz => ?_⟩
  have hx := hc (g := g) rfl (i * 1 + 0) (.int .i64 z) (flat_get intCells 1 (fun _ => rfl) xs i 0 z _ hz rfl)
  rw [show (⟨g, 0, none⟩ : Addr).add (i * 1 + 0) = ⟨g, i, none⟩ by unfold Addr.add; split <;> simp_all] at hx
  exact hx
theorem bools_nil (w : World) : IsBools w none 0 0 [] := ⟨rfl, Nat.le_refl _, by unfold maxLen; omega, by simp, fun h => absurd h (by omega)⟩
theorem recs_nil {E : Type} (cells : E → List Value) (ok : E → Prop) (k : Nat) (w : World) : IsRecs w cells ok k none 0 0 [] := ⟨rfl, Nat.le_refl _, by unfold maxLen; omega, by simp, fun h => absurd h (by omega)⟩
theorem infoI : (Tryz.prog.info? 3).map (fun i => (i.zero, i.size, i.bytes)) = some (some (.int .i64 0), 1, 8) := by kernel_rfl
theorem infoB : (Tryz.prog.info? 4).map (fun i => (i.zero, i.size, i.bytes)) = some (some (.bool false), 1, 1) := by kernel_rfl
end


section
open Go.RowKit
theorem hasN_yes {n : Nat} {i : Int} : hasN n i = true ↔ 0 ≤ i ∧ i < n := by unfold hasN; simp
inductive WAct (n : Nat) (ss rs : List Int) (t : Int) (us : List RLetter) : RAct → Int → Option RLetter → Int → List RLetter → Prop
 | gone (a b : Int) (h0 : 0 ≤ a) (h1 : a ≤ 1000000) (h2 : t + a ≤ 1000000000) : WAct n ss rs t us ⟨1, a, b⟩ 0 none (t + a) us
 | stays (a b : Int) (h0 : a < 0 ∨ 1000000 < a ∨ 1000000000 < t + a) : WAct n ss rs t us ⟨1, a, b⟩ 1 none t us
 | askNo (a b : Int) (h0 : hasN n a = false ∨ hasN n b = false) : WAct n ss rs t us ⟨2, a, b⟩ 1 none t us
 | askSame (i : Nat) (hi : i < n) : WAct n ss rs t us ⟨2, i, i⟩ 3 none t us
 | askFull (i k : Nat) (hi : i < n) (hk : k < n) (hne : i ≠ k) (hl : 40 ≤ us.length) : WAct n ss rs t us ⟨2, i, k⟩ 4 none t us
 | ask (i k : Nat) (s r : Int) (hs : ss[i]? = some s) (hr : rs[i]? = some r) (hk : k < n) (hne : i ≠ k) (hl : us.length < 40) : WAct n ss rs t us ⟨2, i, k⟩ 0 none t (us ++ [⟨i, k, false, 0, 0, readV s r t⟩])
 | none_ (k a b : Int) (hk : k = 3 ∨ k = 4 ∨ k = 5) (ha : a < 0 ∨ (us.length : Int) ≤ a) : WAct n ss rs t us ⟨k, a, b⟩ 5 none t us
 | deliver (j : Nat) (L : RLetter) (b : Int) (hj : us[j]? = some L) : WAct n ss rs t us ⟨3, j, b⟩ 0 (some L) t (us.eraseIdx j)
 | lose (j : Nat) (L : RLetter) (b : Int) (hj : us[j]? = some L) : WAct n ss rs t us ⟨4, j, b⟩ 0 none t (us.eraseIdx j)
 | again (j : Nat) (L : RLetter) (b : Int) (hj : us[j]? = some L) : WAct n ss rs t us ⟨5, j, b⟩ 0 (some L) t us
 | other (k a b : Int) (h1 : k ≠ 1) (h2 : k ≠ 2) (h3 : k ≠ 3) (h4 : k ≠ 4) (h5 : k ≠ 5) : WAct n ss rs t us ⟨k, a, b⟩ 1 none t us
theorem act_total (n : Nat) (ss rs : List Int) (t : Int) (us : List RLetter) (A : RAct) (ls : ss.length = n) (lr : rs.length = n) : ∃ c got t' us', WAct n ss rs t us A c got t' us' := by
 obtain ⟨k, a, b⟩ := A
 by_cases k1 : k = 1
 ·subst k1
  by_cases h0 : a < 0 ∨ 1000000 < a ∨ 1000000000 < t + a
  ·exact ⟨_, _, _, _, .stays a b h0⟩
  ·exact ⟨_, _, _, _, .gone a b (by omega) (by omega) (by omega)⟩
 by_cases k2 : k = 2
 ·subst k2
  cases h1 : hasN n a
  ·exact ⟨_, _, _, _, .askNo a b (.inl h1)⟩
  ·cases h2 : hasN n b
   ·exact ⟨_, _, _, _, .askNo a b (.inr h2)⟩
   ·rw [hasN_yes] at h1 h2
    obtain ⟨i, rfl⟩ : ∃ i : Nat, a = i := ⟨a.toNat, by omega⟩
    obtain ⟨k, rfl⟩ : ∃ i : Nat, b = i := ⟨b.toNat, by omega⟩
    by_cases hne : i = k
    ·subst hne; exact ⟨_, _, _, _, .askSame i (by omega)⟩
    ·by_cases hl : us.length < 40
     ·exact ⟨_, _, _, _, .ask i k _ _ (List.getElem?_eq_getElem (by omega)) (List.getElem?_eq_getElem (by omega)) (by omega) hne hl⟩
     ·exact ⟨_, _, _, _, .askFull i k (by omega) (by omega) hne (by omega)⟩
 by_cases k3 : k = 3 ∨ k = 4 ∨ k = 5
 ·by_cases h0 : a < 0 ∨ (us.length : Int) ≤ a
  ·exact ⟨_, _, _, _, .none_ k a b k3 h0⟩
  ·obtain ⟨j, rfl⟩ : ∃ j : Nat, a = j := ⟨a.toNat, by omega⟩
   have hj : us[j]? = some us[j] := List.getElem?_eq_getElem (by omega)
   rcases k3 with rfl | rfl | rfl
   ·exact ⟨_, _, _, _, .deliver j _ b hj⟩
   ·exact ⟨_, _, _, _, .lose j _ b hj⟩
   ·exact ⟨_, _, _, _, .again j _ b hj⟩
 ·exact ⟨_, _, _, _, .other k a b k1 k2 (by omega) (by omega) (by omega)⟩
inductive WAns (n : Nat) (ss rs : List Int) (t : Int) (us : List RLetter) : RLetter → Int → List RLetter → Prop
 | yes (a b t1 t2 lt : Int) : WAns n ss rs t us ⟨a, b, true, t1, t2, lt⟩ 3 us
 | no (a b t1 t2 lt : Int) (h0 : hasN n a = false ∨ hasN n b = false) : WAns n ss rs t us ⟨a, b, false, t1, t2, lt⟩ 1 us
 | full (i k : Nat) (t1 t2 lt : Int) (hi : i < n) (hk : k < n) (hl : 40 ≤ us.length) : WAns n ss rs t us ⟨i, k, false, t1, t2, lt⟩ 4 us
 | ok (i k : Nat) (s r t1 t2 lt : Int) (hs : ss[k]? = some s) (hr : rs[k]? = some r) (hi : i < n) (hl : us.length < 40) : WAns n ss rs t us ⟨i, k, false, t1, t2, lt⟩ 0 (us ++ [⟨k, i, true, lt, readV s r t, readV s r t⟩])
theorem ans_total (n : Nat) (ss rs : List Int) (t : Int) (us : List RLetter) (L : RLetter) (ls : ss.length = n) (lr : rs.length = n) : ∃ c us', WAns n ss rs t us L c us' := by
 obtain ⟨a, b, q, t1, t2, lt⟩ := L
 cases q
 ·cases h1 : hasN n a
  ·exact ⟨_, _, .no a b t1 t2 lt (.inl h1)⟩
  ·cases h2 : hasN n b
   ·exact ⟨_, _, .no a b t1 t2 lt (.inr h2)⟩
   ·rw [hasN_yes] at h1 h2
    obtain ⟨i, rfl⟩ : ∃ i : Nat, a = i := ⟨a.toNat, by omega⟩
    obtain ⟨k, rfl⟩ : ∃ i : Nat, b = i := ⟨b.toNat, by omega⟩
    by_cases hl : us.length < 40
    ·exact ⟨_, _, .ok i k _ _ t1 t2 lt (List.getElem?_eq_getElem (by omega)) (List.getElem?_eq_getElem (by omega)) (by omega) hl⟩
    ·exact ⟨_, _, .full i k t1 t2 lt (by omega) (by omega) (by omega)⟩
 ·exact ⟨_, _, .yes a b t1 t2 lt⟩
def LHas (n : Nat) (L : RLetter) : Prop := (0 ≤ L.src ∧ L.src < n) ∧ (0 ≤ L.dst ∧ L.dst < n)
theorem WAct.has {n : Nat} {ss rs : List Int} {t t' : Int} {us us' : List RLetter} {A : RAct} {c : Int} {got : Option RLetter} (h : WAct n ss rs t us A c got t' us') (ls : ss.length = n) (hu : ∀ L ∈ us, LHas n L) : (∀ L ∈ us', LHas n L) ∧ (∀ L, got = some L → LHas n L ∧ c = 0 ∧ L ∈ us ∧ t' = t) := by
 cases h with
 | ask i k s r hs hr hk hne hl =>
  refine ⟨fun L hL => ?_, fun L e => by cases e⟩
  rcases List.mem_append.1 hL with h | h
  ·exact hu L h
  ·rw [List.mem_singleton] at h; subst h
   have : i < n := by rw [← ls]; exact (List.getElem?_eq_some_iff.1 hs).1
   exact ⟨⟨by show (0 : Int) ≤ i; omega, by show (i : Int) < n; omega⟩, ⟨by show (0 : Int) ≤ k; omega, by show (k : Int) < n; omega⟩⟩
 | deliver j L b hj => exact ⟨fun L' hL => hu L' (List.mem_of_mem_eraseIdx hL), fun L' e => by cases e; exact ⟨hu L (List.mem_of_getElem? hj), rfl, List.mem_of_getElem? hj, rfl⟩⟩
 | lose j L b hj => exact ⟨fun L' hL => hu L' (List.mem_of_mem_eraseIdx hL), fun L' e => by cases e⟩
 | again j L b hj => exact ⟨hu, fun L' e => by cases e; exact ⟨hu L (List.mem_of_getElem? hj), rfl, List.mem_of_getElem? hj, rfl⟩⟩
 | _ => exact ⟨hu, fun L e => by cases e⟩
theorem WAns.has {n : Nat} {ss rs : List Int} {t : Int} {us us' : List RLetter} {L : RLetter} {c : Int} (h : WAns n ss rs t us L c us') (ls : ss.length = n) (hu : ∀ L ∈ us, LHas n L) : ∀ L ∈ us', LHas n L := by
 cases h with
 | ok i k s r t1 t2 lt hs hr hi hl =>
  intro L hL
  rcases List.mem_append.1 hL with h | h
  ·exact hu L h
  ·rw [List.mem_singleton] at h; subst h
   have : k < n := by rw [← ls]; exact (List.getElem?_eq_some_iff.1 hs).1
   exact ⟨⟨by show (0 : Int) ≤ k; omega, by show (k : Int) < n; omega⟩, ⟨by show (0 : Int) ≤ i; omega, by show (i : Int) < n; omega⟩⟩
 | _ => exact hu
end


section
inductive Way (A : Nat → Nat → Int → Prop) (a : Nat) : Nat → Nat → Int → Prop
 | start : Way A a a 0 0
 | go {b d r : Nat} {c w : Int} : Way A a b r c → A b d w → Way A a d (r + 1) (c + w)
section
variable {A : Nat → Nat → Int → Prop}
theorem Way.app {a b d r s : Nat} {c e : Int} (h : Way A a b r c) (g : Way A b d s e) : Way A a d (r + s) (c + e) := by
 induction g with
 | start => simpa using h
 | go g' hw ih => rw [← Nat.add_assoc, ← Int.add_assoc]; exact .go ih hw
theorem Way.one {a b : Nat} {w : Int} (h : A a b w) : Way A a b 1 w := by
 have := Way.go (.start (A := A) (a := a)) h
 simpa using this
theorem Way.eq {a b r r' : Nat} {c c' : Int} (h : Way A a b r c) (hr : r = r') (hc : c = c') : Way A a b r' c' := by subst hr; subst hc; exact h
theorem Way.cut {a b : Nat} (i j : Nat) {c : Int} (h : Way A a b (i + j) c) : ∃ x c1 c2, Way A a x i c1 ∧ Way A x b j c2 ∧ c = c1 + c2 := by
 induction j generalizing b c with
 | zero => exact ⟨b, c, 0, h, .start, by omega⟩
 | succ j ih =>
  rw [← Nat.add_assoc] at h
  cases h with
  | go g hw =>
   obtain ⟨x, c1, c2, h1, h2, h3⟩ := ih g
   exact ⟨x, c1, _, h1, .go h2 hw, by omega⟩
theorem Way.lt {n a b r : Nat} {c : Int} (hA : ∀ x y w, A x y w → x < n ∧ y < n) (ha : a < n) (h : Way A a b r c) : b < n := by
 cases h with
 | start => exact ha
 | go _ hw => exact (hA _ _ _ hw).2
theorem pigeon (n : Nat) : ∀ L : List Nat, L.Nodup → (∀ x ∈ L, x < n) → L.length ≤ n := by
 induction n with
 | zero =>
  intro L _ h
  cases L with
  | nil => simp
  | cons x L => exact absurd (h x (by simp)) (by omega)
 | succ n ih =>
  intro L hn h
  by_cases hm : n ∈ L
  ·have h1 := ih (L.erase n) (hn.erase n) (fun x hx => by
    have hx2 := (hn.mem_erase_iff).1 hx
    have := h x hx2.2
    have := hx2.1
    omega)
   rw [List.length_erase_of_mem hm] at h1
   omega
  ·have h1 := ih L hn (fun x hx => by
    have := h x hx
    have : x ≠ n := fun e => hm (e ▸ hx)
    omega)
   omega
theorem Way.nodes {n a : Nat} (hA : ∀ x y w, A x y w → x < n ∧ y < n) (ha : a < n) : ∀ (r b : Nat) (c : Int), Way A a b r c →
  (∃ L : List Nat, L.Nodup ∧ L.length = r + 1 ∧ (∀ x ∈ L, x < n) ∧ ∀ x ∈ L, ∃ i j c1 c2, i + j = r ∧ Way A a x i c1 ∧ Way A x b j c2 ∧ c1 + c2 = c)
  ∨ (∃ v i e k c1 c2 c3, 0 < e ∧ i + e + k = r ∧ Way A a v i c1 ∧ Way A v v e c2 ∧ Way A v b k c3 ∧ c1 + c2 + c3 = c) := by
 intro r
 induction r with
 | zero =>
  intro b c h
  cases h
  exact .inl ⟨[a], by simp, rfl, by simpa using ha, fun x hx => by
   obtain rfl : x = a := by simpa using hx
   exact ⟨0, 0, 0, 0, rfl, .start, .start, by omega⟩⟩
 | succ r ih =>
  intro b c h
  have hb := h.lt hA ha
  cases h with
  | @go y d r' c' w g hw =>
   rcases ih _ _ g with ⟨L, h1, h2, h3, h4⟩ | ⟨v, i, e, k, c1, c2, c3, h1, h2, h3, h4, h5, h6⟩
   ·by_cases hm : b ∈ L
    ·obtain ⟨i, j, c1, c2, e1, e2, e3, e4⟩ := h4 b hm
     exact .inr ⟨b, i, j + 1, 0, c1, c2 + w, 0, by omega, by omega, e2, .go e3 hw, .start, by omega⟩
    ·refine .inl ⟨b :: L, List.nodup_cons.2 ⟨hm, h1⟩, by simp [h2], fun x hx => ?_, fun x hx => ?_⟩
     ·rcases List.mem_cons.1 hx with rfl | hx
      ·exact hb
      ·exact h3 x hx
     ·rcases List.mem_cons.1 hx with rfl | hx
      ·exact ⟨r + 1, 0, c' + w, 0, by omega, .go g hw, .start, by omega⟩
      ·obtain ⟨i, j, c1, c2, e1, e2, e3, e4⟩ := h4 x hx
       exact ⟨i, j + 1, c1, c2 + w, by omega, e2, .go e3 hw, by omega⟩
   ·exact .inr ⟨v, i, e, k + 1, c1, c2, c3 + w, h1, by omega, h3, h4, .go h5 hw, by omega⟩
theorem Way.short {n a : Nat} (hA : ∀ x y w, A x y w → x < n ∧ y < n) (ha : a < n) : ∀ (r b : Nat) (c : Int), Way A a b r c →
  (∃ r' c', r' < n ∧ c' ≤ c ∧ Way A a b r' c') ∨ (∃ v e c', v < n ∧ e ≤ n ∧ c' < 0 ∧ Way A v v e c') := by
 intro r
 induction r using Nat.strongRecOn with
 | ind r ih =>
  intro b c h
  by_cases hr : r < n
  ·exact .inl ⟨r, c, hr, by omega, h⟩
  ·obtain ⟨u, c1, c2, g1, g2, g3⟩ := Way.cut n (r - n) (h.eq (by omega) rfl)
   rcases Way.nodes hA ha _ _ _ g1 with ⟨L, h1, h2, h3, h4⟩ | ⟨v, i, e, k, d1, d2, d3, h1, h2, h3, h4, h5, h6⟩
   ·have := pigeon n L h1 h3
    omega
   ·have hv := h3.lt hA ha
    by_cases hd : d2 < 0
    ·exact .inr ⟨v, e, d2, hv, by omega, hd, h4⟩
    ·rcases ih (i + (k + (r - n))) (by omega) b _ (h3.app (h5.app g2)) with ⟨r', c', q1, q2, q3⟩ | hx
     ·exact .inl ⟨r', c', q1, by omega, q3⟩
     ·exact .inr hx
end
def Sunk (A : Nat → Nat → Int → Prop) (n : Nat) : Prop := ∃ v r c, v < n ∧ c < 0 ∧ Way A v v r c
theorem Sunk.short {A : Nat → Nat → Int → Prop} {n : Nat} (hA : ∀ x y w, A x y w → x < n ∧ y < n) (h : Sunk A n) : ∃ v r c, v < n ∧ r ≤ n ∧ c < 0 ∧ Way A v v r c := by
 obtain ⟨v, r, c, h1, h2, h3⟩ := h
 rcases Way.short hA h1 _ _ _ h3 with ⟨r', c', q1, q2, q3⟩ | hx
 ·exact ⟨v, r', c', h1, by omega, by omega, q3⟩
 ·exact hx
def Near (A : Nat → Nat → Int → Prop) (a b : Nat) (c : Int) : Prop := (∃ r, Way A a b r c) ∧ ∀ r c', Way A a b r c' → c ≤ c'
theorem Near.one {A : Nat → Nat → Int → Prop} {a b : Nat} {c d : Int} (h : Near A a b c) (g : Near A a b d) : c = d := by
 obtain ⟨⟨r, h1⟩, h2⟩ := h
 obtain ⟨⟨s, g1⟩, g2⟩ := g
 have := h2 _ _ g1
 have := g2 _ _ h1
 omega
def farI : Int := 1152921504606846976
def Tells (A : Nat → Nat → Int → Prop) (n : Nat) (D : Nat → Nat → Int) (H : Nat → Nat → Bool) : Prop :=
 ∀ a b, a < n → b < n → (H a b = false ∧ ∀ r c, ¬ Way A a b r c) ∨ (H a b = true ∧ Near A a b (D a b))
theorem Tells.has {A : Nat → Nat → Int → Prop} {n : Nat} {D E : Nat → Nat → Int} {H G : Nat → Nat → Bool} (h : Tells A n D H) (g : Tells A n E G) {a b : Nat} (ha : a < n) (hb : b < n) : H a b = G a b := by
 rcases h a b ha hb with ⟨h1, h2⟩ | ⟨h1, ⟨r, h2⟩, _⟩ <;> rcases g a b ha hb with ⟨g1, g2⟩ | ⟨g1, ⟨s, g2⟩, _⟩
 ·rw [h1, g1]
 ·exact absurd g2 (h2 _ _)
 ·exact absurd h2 (g2 _ _)
 ·rw [h1, g1]
theorem Tells.same {A : Nat → Nat → Int → Prop} {n : Nat} {D E : Nat → Nat → Int} {H G : Nat → Nat → Bool} (h : Tells A n D H) (g : Tells A n E G) {a b : Nat} (ha : a < n) (hb : b < n) (hh : H a b = true) : D a b = E a b := by
 have hg := (h.has g ha hb).symm.trans hh
 rcases h a b ha hb with ⟨h1, h2⟩ | ⟨h1, h2⟩
 ·rw [hh] at h1; cases h1
 ·rcases g a b ha hb with ⟨g1, g2⟩ | ⟨g1, g2⟩
  ·rw [hg] at g1; cases g1
  ·exact h2.one g2
end


section
open Go.RowKit
def edgeB (n : Nat) (e : REdge) : Prop := 0 ≤ e.a ∧ e.a < n ∧ 0 ≤ e.b ∧ e.b < n ∧ e.a ≠ e.b ∧ -1000000000000 ≤ e.lo ∧ e.lo ≤ e.hi ∧ e.hi ≤ 1000000000000
def EdgesOk (n : Nat) (l : List REdge) : Prop := ∀ e ∈ l, edgeB n e
def Arc (l : List REdge) (x y : Nat) (w : Int) : Prop := ∃ e ∈ l, (e.a = x ∧ e.b = y ∧ w = e.hi) ∨ (e.b = x ∧ e.a = y ∧ w = -e.lo)
theorem Arc.bd {n : Nat} {l : List REdge} (hl : EdgesOk n l) {x y : Nat} {w : Int} (h : Arc l x y w) : x < n ∧ y < n ∧ x ≠ y ∧ -1000000000000 ≤ w ∧ w ≤ 1000000000000 := by
 obtain ⟨e, he, h⟩ := h
 have := hl e he
 unfold edgeB at this
 rcases h with ⟨h1, h2, h3⟩ | ⟨h1, h2, h3⟩ <;> omega
theorem Arc.lt {n : Nat} {l : List REdge} (hl : EdgesOk n l) : ∀ x y w, Arc l x y w → x < n ∧ y < n := fun _ _ _ h => ⟨(h.bd hl).1, (h.bd hl).2.1⟩
def up2 (D : Nat → Nat → Int) (a b : Nat) (v : Int) : Nat → Nat → Int := fun i j => if i = a ∧ j = b then v else D i j
theorem up2_at (D : Nat → Nat → Int) (a b : Nat) (v : Int) : up2 D a b v a b = v := by simp [up2]
theorem up2_ne (D : Nat → Nat → Int) {a b i j : Nat} (v : Int) (h : ¬ (i = a ∧ j = b)) : up2 D a b v i j = D i j := by simp [up2, h]
theorem up2_le {D : Nat → Nat → Int} {a b : Nat} {v : Int} (h : v ≤ D a b) (i j : Nat) : up2 D a b v i j ≤ D i j := by
 unfold up2
 split
 ·rename_i e; rw [e.1, e.2]; exact h
 ·omega
/-! ## over each node in turn -/
def XB : Nat → Int
 | 0 => 1000000000000
 | m + 1 => 6 * XB m
theorem XB_bd (m : Nat) (h : m ≤ 6) : 1000000000000 ≤ XB m ∧ XB m ≤ 46656000000000000 := by
 have : m = 0 ∨ m = 1 ∨ m = 2 ∨ m = 3 ∨ m = 4 ∨ m = 5 ∨ m = 6 := by omega
 rcases this with rfl | rfl | rfl | rfl | rfl | rfl | rfl <;> decide
def Ent (A : Nat → Nat → Int → Prop) (X : Int) (a b : Nat) (v : Int) : Prop := v = farI ∨ (-X ≤ v ∧ v ≤ X ∧ ∃ r, Way A a b r v)
theorem Ent.mono {A : Nat → Nat → Int → Prop} {X Y : Int} (h : X ≤ Y) {a b : Nat} {v : Int} (g : Ent A X a b v) : Ent A Y a b v := by
 rcases g with g | ⟨g1, g2, g3⟩
 ·exact .inl g
 ·exact .inr ⟨by omega, by omega, g3⟩
theorem Ent.cut {A : Nat → Nat → Int → Prop} {X : Int} {a b : Nat} {v : Int} (g : Ent A X a b v) (h : v < farI) : -X ≤ v ∧ v ≤ X ∧ ∃ r, Way A a b r v := by
 rcases g with g | g
 ·omega
 ·exact g
structure EInv (n : Nat) (l : List REdge) (k : Nat) (D : Nat → Nat → Int) : Prop where
 diag : ∀ a, a < n → D a a = 0
 ent : ∀ a b, a < n → b < n → Ent (Arc l) 1000000000000 a b (D a b)
 arc : ∀ x y w, Arc (l.take k) x y w → D x y ≤ w
theorem EInv.init (n : Nat) (l : List REdge) (D : Nat → Nat → Int) (h : ∀ a b, a < n → b < n → D a b = if a = b then 0 else farI) : EInv n l 0 D :=
 ⟨fun a ha => by rw [h a a ha ha, if_pos rfl], fun a b ha hb => by
  rw [h a b ha hb]
  by_cases e : a = b
  ·subst e; rw [if_pos rfl]; exact .inr ⟨by omega, by omega, 0, .start⟩
  ·rw [if_neg e]; exact .inl rfl, fun x y w h => by
  obtain ⟨e, he, _⟩ := h
  simp at he⟩
theorem take_arc {l : List REdge} {k : Nat} {e : REdge} (he : l[k]? = some e) {x y : Nat} {w : Int} (h : Arc (l.take (k + 1)) x y w) : Arc (l.take k) x y w ∨ (e.a = x ∧ e.b = y ∧ w = e.hi) ∨ (e.b = x ∧ e.a = y ∧ w = -e.lo) := by
 obtain ⟨e', he', h⟩ := h
 rw [List.take_add_one, he] at he'
 rcases List.mem_append.1 he' with g | g
 ·exact .inl ⟨e', g, h⟩
 ·obtain rfl : e' = e := by simpa using g
  exact .inr h
theorem EInv.step {n : Nat} {l : List REdge} {k : Nat} {D : Nat → Nat → Int} (hl : EdgesOk n l) (h : EInv n l k D) {e : REdge} (he : l[k]? = some e) {a b : Nat} (ha : e.a = a) (hb : e.b = b) :
  EInv n l (k + 1) (up2 (up2 D a b (min (D a b) e.hi)) b a (min (D b a) (-e.lo))) := by
 have hm := List.mem_of_getElem? he
 have hk := hl e hm
 unfold edgeB at hk
 have hab : a ≠ b := by omega
 have ab : Arc l a b e.hi := ⟨e, hm, .inl ⟨by omega, by omega, rfl⟩⟩
 have ba : Arc l b a (-e.lo) := ⟨e, hm, .inr ⟨by omega, by omega, rfl⟩⟩
 have e1 : ∀ i j, up2 (up2 D a b (min (D a b) e.hi)) b a (min (D b a) (-e.lo)) i j = if i = b ∧ j = a then min (D b a) (-e.lo) else if i = a ∧ j = b then min (D a b) e.hi else D i j := fun i j => rfl
 refine ⟨fun i hi => ?_, fun i j hi hj => ?_, fun x y w hw => ?_⟩
 ·rw [e1, if_neg (by omega), if_neg (by omega)]; exact h.diag i hi
 ·rw [e1]
  by_cases c1 : i = b ∧ j = a
  ·rw [if_pos c1]
   obtain ⟨rfl, rfl⟩ := c1
   rcases Int.le_total (D i j) (-e.lo) with q | q
   ·rw [Int.min_eq_left q]; exact h.ent i j hi hj
   ·rw [Int.min_eq_right q]; exact .inr ⟨by omega, by omega, 1, .one ba⟩
  ·rw [if_neg c1]
   by_cases c2 : i = a ∧ j = b
   ·rw [if_pos c2]
    obtain ⟨rfl, rfl⟩ := c2
    rcases Int.le_total (D i j) e.hi with q | q
    ·rw [Int.min_eq_left q]; exact h.ent i j hi hj
    ·rw [Int.min_eq_right q]; exact .inr ⟨by omega, by omega, 1, .one ab⟩
   ·rw [if_neg c2]; exact h.ent i j hi hj
 ·rw [e1]
  rcases take_arc he hw with g | ⟨g1, g2, g3⟩ | ⟨g1, g2, g3⟩
  ·have := h.arc x y w g
   split
   ·rename_i c; rw [← c.1, ← c.2]; omega
   ·split
    ·rename_i c; rw [← c.1, ← c.2]; omega
    ·exact this
  ·rw [if_neg (by omega), if_pos (by omega)]; omega
  ·rw [if_pos (by omega)]; omega
def pick (E : Nat → Nat → Int) (m a b : Nat) : Int := if E a m < farI ∧ E m b < farI then min (E a b) (E a m + E m b) else E a b
def Clo (n m : Nat) (E : Nat → Nat → Int) : Prop := ∀ j, j < m → ∀ a b, a < n → b < n → E a j < farI → E j b < farI → E a b ≤ E a j + E j b
def doneB (i k a b : Nat) : Bool := decide (a < i) || (decide (a = i) && decide (b < k))
theorem doneB_iff {i k a b : Nat} : doneB i k a b = true ↔ a < i ∨ (a = i ∧ b < k) := by simp [doneB]
def lim (X : Int) (m a b : Nat) : Int := if a = m ∧ b = m then 2 * X else if a = m ∨ b = m then 3 * X else 6 * X
structure FInv (n : Nat) (l : List REdge) (m i k : Nat) (D : Nat → Nat → Int) : Prop where
 ent : ∀ a b, a < n → b < n → Ent (Arc l) (if doneB i k a b = true then lim (XB m) m a b else XB m) a b (D a b)
 neg : (∃ a, a < n ∧ D a a < 0) ∨ ∃ E : Nat → Nat → Int, Clo n m E ∧ (∀ a, a < n → E a a = 0) ∧ (∀ a b, a < n → b < n → Ent (Arc l) (XB m) a b (E a b)) ∧ (∀ x y w, Arc l x y w → E x y ≤ w) ∧
  ∀ a b, a < n → b < n → D a b = if doneB i k a b = true then pick E m a b else E a b
theorem FInv.init {n : Nat} {l : List REdge} {D : Nat → Nat → Int} (h : EInv n l l.length D) : FInv n l 0 0 0 D :=
 ⟨fun a b ha hb => by
  have : doneB 0 0 a b = false := by simp [doneB]
  rw [this]; exact h.ent a b ha hb, .inr ⟨D, fun j hj => absurd hj (by omega), h.diag, h.ent, fun x y w hw => h.arc x y w (by rw [List.take_length]; exact hw), fun a b _ _ => by
  have : doneB 0 0 a b = false := by simp [doneB]
  rw [this]; rfl⟩⟩
theorem FInv.step {n : Nat} {l : List REdge} {m i k : Nat} {D : Nat → Nat → Int} (hm : m < n) (hm6 : m < 6) (hi : i < n) (hk : k < n) (h : FInv n l m i k D) :
  FInv n l m i (k + 1) (if D i m < farI ∧ D m k < farI then up2 D i k (min (D i k) (D i m + D m k)) else D) := by
 have hX := XB_bd m (by omega)
 generalize hX' : XB m = X at hX
 have hd : ∀ a b, ¬ (a = i ∧ b = k) → doneB i (k + 1) a b = doneB i k a b := fun a b hne => by
  rw [Bool.eq_iff_iff, doneB_iff, doneB_iff]; omega
 have hd1 : doneB i (k + 1) i k = true := doneB_iff.2 (by omega)
 have hd0 : doneB i k i k = false := by
  cases e : doneB i k i k
  ·rfl
  ·have := doneB_iff.1 e; omega
 obtain ⟨he, hn⟩ := h
 rw [hX'] at he
 by_cases hc : D i m < farI ∧ D m k < farI
 ·rw [if_pos hc]
  refine ⟨fun a b ha hb => ?_, ?_⟩
  ·rw [hX']
   by_cases hab : a = i ∧ b = k
   ·obtain ⟨rfl, rfl⟩ := hab
    rw [up2_at, hd1, if_pos rfl]
    rcases Int.le_total (D a b) (D a m + D m b) with q | q
    ·rw [Int.min_eq_left q]
     have := he a b ha hb
     rw [hd0] at this
     exact Ent.mono (by simp only [Bool.false_eq_true, if_false]; unfold lim; split <;> (try split) <;> omega) this
    ·rw [Int.min_eq_right q]
     obtain ⟨p1, p2, r, p3⟩ := (he a m ha hm).cut hc.1
     obtain ⟨q1, q2, s, q3⟩ := (he m b hm hb).cut hc.2
     refine .inr ⟨?_, ?_, r + s, p3.app q3⟩
     ·unfold lim at *
      by_cases c1 : a = m <;> by_cases c2 : b = m
      ·subst c1; subst c2
       rw [hd0] at p1 q1
       simp at p1 q1 ⊢; omega
      ·subst c1
       rw [hd0] at q1
       simp [c2] at p1 q1 ⊢
       split at p1 <;> omega
      ·subst c2
       rw [hd0] at p1
       simp [c1] at p1 q1 ⊢
       split at q1 <;> omega
      ·simp [c1, c2] at p1 q1 ⊢
       split at p1 <;> split at q1 <;> omega
     ·unfold lim at *
      by_cases c1 : a = m <;> by_cases c2 : b = m
      ·subst c1; subst c2
       rw [hd0] at p2 q2
       simp at p2 q2 ⊢; omega
      ·subst c1
       rw [hd0] at q2
       simp [c2] at p2 q2 ⊢
       split at p2 <;> omega
      ·subst c2
       rw [hd0] at p2
       simp [c1] at p2 q2 ⊢
       split at q2 <;> omega
      ·simp [c1, c2] at p2 q2 ⊢
       split at p2 <;> split at q2 <;> omega
   ·rw [up2_ne _ _ hab, hd a b hab]
    exact he a b ha hb
  ·rcases hn with ⟨a, ha, hneg⟩ | ⟨E, n1, n2, n3, n4, n5⟩
   ·left
    exact ⟨a, ha, Int.lt_of_le_of_lt (up2_le (by omega) a a) hneg⟩
   ·right
    refine ⟨E, n1, n2, n3, n4, fun a b ha hb => ?_⟩
    by_cases hab : a = i ∧ b = k
    ·obtain ⟨rfl, rfl⟩ := hab
     have zm := n2 m hm
     have g1 : D a m = E a m := by
      rw [n5 a m ha hm]
      split
      ·unfold pick
       rw [zm]
       split <;> omega
      ·rfl
     have g2 : D m b = E m b := by
      rw [n5 m b hm hb]
      split
      ·unfold pick
       rw [zm]
       split <;> omega
      ·rfl
     have g3 : D a b = E a b := by rw [n5 a b ha hb, hd0]; rfl
     rw [up2_at, hd1, if_pos rfl]
     unfold pick
     rw [← g1, ← g2, ← g3, if_pos hc]
    ·rw [up2_ne _ _ hab, hd a b hab]
     exact n5 a b ha hb
 ·rw [if_neg hc]
  refine ⟨fun a b ha hb => ?_, ?_⟩
  ·rw [hX']
   by_cases hab : a = i ∧ b = k
   ·obtain ⟨rfl, rfl⟩ := hab
    have := he a b ha hb
    rw [hd0] at this
    rw [hd1, if_pos rfl]
    exact Ent.mono (by simp only [Bool.false_eq_true, if_false]; unfold lim; split <;> (try split) <;> omega) this
   ·rw [hd a b hab]
    exact he a b ha hb
  ·rcases hn with hn | ⟨E, n1, n2, n3, n4, n5⟩
   ·exact .inl hn
   ·right
    refine ⟨E, n1, n2, n3, n4, fun a b ha hb => ?_⟩
    by_cases hab : a = i ∧ b = k
    ·obtain ⟨rfl, rfl⟩ := hab
     have zm := n2 m hm
     have g1 : D a m = E a m := by
      rw [n5 a m ha hm]
      split
      ·unfold pick
       rw [zm]
       split <;> omega
      ·rfl
     have g2 : D m b = E m b := by
      rw [n5 m b hm hb]
      split
      ·unfold pick
       rw [zm]
       split <;> omega
      ·rfl
     have g3 : D a b = E a b := by rw [n5 a b ha hb, hd0]; rfl
     rw [hd1, if_pos rfl]
     unfold pick
     rw [← g1, ← g2, ← g3, if_neg hc]
    ·rw [hd a b hab]
     exact n5 a b ha hb
theorem FInv.row {n : Nat} {l : List REdge} {m i : Nat} {D : Nat → Nat → Int} (h : FInv n l m i n D) : FInv n l m (i + 1) 0 D := by
 have hd : ∀ a b, b < n → doneB (i + 1) 0 a b = doneB i n a b := fun a b hb => by
  rw [Bool.eq_iff_iff, doneB_iff, doneB_iff]; omega
 refine ⟨fun a b ha hb => by rw [hd a b hb]; exact h.ent a b ha hb, ?_⟩
 rcases h.neg with hn | ⟨E, n1, n2, n3, n4, n5⟩
 ·exact .inl hn
 ·exact .inr ⟨E, n1, n2, n3, n4, fun a b ha hb => by rw [hd a b hb]; exact n5 a b ha hb⟩
theorem lim_le {X : Int} (h : 0 ≤ X) (m a b : Nat) : lim X m a b ≤ 6 * X := by
 unfold lim
 split
 ·omega
 ·split <;> omega
theorem FInv.next {n : Nat} {l : List REdge} {m : Nat} {D : Nat → Nat → Int} (hl : EdgesOk n l) (hm : m < n) (hm6 : m < 6) (h : FInv n l m n 0 D) : FInv n l (m + 1) 0 0 D := by
 have hX := XB_bd m (by omega)
 have hd : ∀ a b, a < n → doneB n 0 a b = true := fun a b ha => doneB_iff.2 (by omega)
 have hd0 : ∀ a b, doneB 0 0 a b = false := fun a b => by simp [doneB]
 have hent : ∀ a b, a < n → b < n → Ent (Arc l) (XB (m + 1)) a b (D a b) := fun a b ha hb => by
  have := h.ent a b ha hb
  rw [hd a b ha, if_pos rfl] at this
  exact this.mono (lim_le (by omega) _ _ _)
 refine ⟨fun a b ha hb => by rw [hd0]; exact hent a b ha hb, ?_⟩
 rcases h.neg with hn | ⟨E, n1, n2, n3, n4, n5⟩
 ·exact .inl hn
 ·by_cases hneg : ∃ a, a < n ∧ D a a < 0
  ·exact .inl hneg
  ·right
   have hD : ∀ a b, a < n → b < n → D a b = pick E m a b := fun a b ha hb => by rw [n5 a b ha hb, hd a b ha]; rfl
   have zm := n2 m hm
   have pk : ∀ a b, a < n → b < n → pick E m a b ≤ E a b := fun a b _ _ => by unfold pick; split <;> omega
   have pf : ∀ a b, a < n → b < n → pick E m a b < farI → (E a b < farI ∧ pick E m a b = E a b) ∨ (E a m < farI ∧ E m b < farI ∧ pick E m a b = E a m + E m b) := fun a b ha hb hp => by
    unfold pick at hp ⊢
    split
    ·rename_i c
     rw [if_pos c] at hp
     rcases Int.le_total (E a b) (E a m + E m b) with q | q
     ·left; rw [Int.min_eq_left q] at hp ⊢; exact ⟨hp, rfl⟩
     ·right; exact ⟨c.1, c.2, Int.min_eq_right q⟩
    ·rename_i c
     rw [if_neg c] at hp
     exact .inl ⟨hp, rfl⟩
   have le1 : ∀ a b, a < n → b < n → E a m < farI → E m b < farI → pick E m a b ≤ E a m + E m b := fun a b _ _ h1 h2 => by unfold pick; rw [if_pos ⟨h1, h2⟩]; omega
   have fin : ∀ a b, a < n → b < n → ∀ j, j < n → E a j < farI → E j b < farI → E a j + E j b < farI := fun a b ha hb j hj h1 h2 => by
    obtain ⟨_, p2, _⟩ := (n3 a j ha hj).cut h1
    obtain ⟨_, q2, _⟩ := (n3 j b hj hb).cut h2
    unfold farI at *
    omega
   refine ⟨D, fun j hj a b ha hb h1 h2 => ?_, fun a ha => ?_, hent, fun x y w hw => ?_, fun a b _ _ => by rw [hd0]; rfl⟩
   ·have hjn : j < n := by omega
    rw [hD a j ha hjn] at h1 ⊢
    rw [hD j b hjn hb] at h2 ⊢
    rw [hD a b ha hb]
    have mm : ∀ j, j < m → j < n → E m j < farI → E j m < farI → 0 ≤ E m j + E j m := fun j hj hjn h1 h2 => by
     have := n1 j hj m m hm hm h1 h2
     omega
    by_cases ejm : j = m
    ·subst ejm
     rcases pf a j ha hjn h1 with ⟨u1, u2⟩ | ⟨u1, u2, u3⟩ <;> rcases pf j b hjn hb h2 with ⟨v1, v2⟩ | ⟨v1, v2, v3⟩
     ·rw [u2, v2]; exact le1 a b ha hb u1 v1
     ·rw [u2, v3]; have := le1 a b ha hb u1 v2; omega
     ·rw [u3, v2]; have := le1 a b ha hb u1 v1; omega
     ·rw [u3, v3]; have := le1 a b ha hb u1 v2; omega
    ·have hj' : j < m := by omega
     rcases pf a j ha hjn h1 with ⟨u1, u2⟩ | ⟨u1, u2, u3⟩ <;> rcases pf j b hjn hb h2 with ⟨v1, v2⟩ | ⟨v1, v2, v3⟩
     ·rw [u2, v2]
      have := n1 j hj' a b ha hb u1 v1
      have := pk a b ha hb
      omega
     ·rw [u2, v3]
      have t1 := n1 j hj' a m ha hm u1 v1
      have t2 := fin a m ha hm j hjn u1 v1
      have := le1 a b ha hb (by omega) v2
      omega
     ·rw [u3, v2]
      have t1 := n1 j hj' m b hm hb u2 v1
      have t2 := fin m b hm hb j hjn u2 v1
      have := le1 a b ha hb u1 (by omega)
      omega
     ·rw [u3, v3]
      have t1 := mm j hj' hjn u2 v1
      have := le1 a b ha hb u1 v2
      omega
   ·have h0 : 0 ≤ D a a := by
     rcases Int.lt_or_le (D a a) 0 with q | q
     ·exact absurd ⟨a, ha, q⟩ hneg
     ·exact q
    have := pk a a ha ha
    rw [hD a a ha ha] at h0 ⊢
    rw [n2 a ha] at this
    omega
   ·by_cases hx : x < n ∧ y < n
    ·rw [hD x y hx.1 hx.2]
     have := pk x y hx.1 hx.2
     have := n4 x y w hw
     omega
    ·exact absurd hw (by
      intro hw
      exact hx (Arc.lt hl x y w hw))
theorem FInv.fin {n : Nat} {l : List REdge} {m i k : Nat} {D : Nat → Nat → Int} (h : FInv n l m i k D) (hm : m < 6) {a b : Nat} (ha : a < n) (hb : b < n) : D a b < farI → -46656000000000000 * 6 ≤ D a b ∧ D a b ≤ 46656000000000000 * 6 := by
 intro hf
 have hX := XB_bd m (by omega)
 obtain ⟨p1, p2, _⟩ := (h.ent a b ha hb).cut hf
 have hl := lim_le (X := XB m) (by omega) m a b
 split at p1 <;> omega
theorem FInv.fine {n : Nat} {l : List REdge} {D : Nat → Nat → Int} (hl : EdgesOk n l) (hn : n ≤ 6) (h : FInv n l n 0 0 D) (hd : ∀ a, a < n → 0 ≤ D a a) :
  ¬ Sunk (Arc l) n ∧ Tells (Arc l) n D (fun a b => decide (D a b < farI)) ∧ ∀ a b, a < n → b < n → D a b = farI ∨ (-46656000000000000 ≤ D a b ∧ D a b ≤ 46656000000000000) := by
 have hX := XB_bd n hn
 have hz : ∀ a b, doneB 0 0 a b = false := fun a b => by simp [doneB]
 rcases h.neg with ⟨a, ha, hneg⟩ | ⟨E, n1, n2, n3, n4, n5⟩
 ·have := hd a ha; omega
 ·have hDE : ∀ a b, a < n → b < n → D a b = E a b := fun a b ha hb => by rw [n5 a b ha hb, hz]; rfl
  have hfar : farI = 1152921504606846976 := rfl
  have key : ∀ a r b c, a < n → Way (Arc l) a b r c → b < n ∧ E a b < farI ∧ E a b ≤ c := by
   intro a r b c ha hw
   induction hw with
   | start => exact ⟨ha, by rw [n2 a ha]; omega, by rw [n2 a ha]; omega⟩
   | @go x y r c w g hw ih =>
    obtain ⟨i1, i2, i3⟩ := ih
    have hb := hw.bd hl
    have e1 := n4 _ _ _ hw
    obtain ⟨p1, p2, _⟩ := (n3 a x ha i1).cut i2
    have e2 : E x y < farI := by omega
    obtain ⟨q1, q2, _⟩ := (n3 x y i1 hb.2.1).cut e2
    have e3 := n1 x i1 a y ha hb.2.1 i2 e2
    exact ⟨hb.2.1, by omega, by omega⟩
  refine ⟨?_, fun a b ha hb => ?_, fun a b ha hb => ?_⟩
  ·rintro ⟨v, r, c, hv, hc, hw⟩
   obtain ⟨_, _, h3⟩ := key v r v c hv hw
   rw [n2 v hv] at h3
   omega
  ·by_cases hf : D a b < farI
   ·right
    refine ⟨by simpa using hf, ?_, fun r c hw => ?_⟩
    ·rw [hDE a b ha hb] at hf ⊢
     exact ((n3 a b ha hb).cut hf).2.2
    ·rw [hDE a b ha hb]
     exact (key a r b c ha hw).2.2
   ·left
    refine ⟨by simpa using hf, fun r c hw => ?_⟩
    rw [hDE a b ha hb] at hf
    exact hf (key a r b c ha hw).2.1
  ·rcases n3 a b ha hb with q | ⟨q1, q2, _⟩
   ·left; rw [hDE a b ha hb]; exact q
   ·right; rw [hDE a b ha hb]; omega
theorem FInv.sunk {n : Nat} {l : List REdge} {D : Nat → Nat → Int} (h : FInv n l n 0 0 D) {a : Nat} (ha : a < n) (hd : D a a < 0) : Sunk (Arc l) n := by
 have hf : D a a < farI := by unfold farI; omega
 obtain ⟨_, _, r, hr⟩ := (h.ent a a ha ha).cut hf
 exact ⟨a, r, D a a, ha, hd, hr⟩
end


section
open Go.RowKit
def nodeB (n i : Int) : Bool := decide (0 ≤ i) && decide (i < n)
theorem nodeB_iff {n i : Int} : nodeB n i = true ↔ 0 ≤ i ∧ i < n := by simp [nodeB]
def edgeC (n : Int) (e : REdge) : Int := if nodeB n e.a = true ∧ nodeB n e.b = true then (if e.a = e.b then 3 else okC (rightB e.lo e.hi)) else 1
def edgesGo (n : Int) : List REdge → Int
 | [] => 0
 | e :: l => if edgeC n e = 0 then edgesGo n l else edgeC n e
def edgesC (n : Int) (l : List REdge) : Int := if n < 1 ∨ 6 < n then 1 else if 40 < l.length then 4 else edgesGo n l
theorem edgesGo_at {n : Int} {l : List REdge} {k : Nat} {e : REdge} (h : l[k]? = some e) : edgesGo n (l.drop k) = if edgeC n e = 0 then edgesGo n (l.drop (k + 1)) else edgeC n e := by
 obtain ⟨hk, he⟩ := List.getElem?_eq_some_iff.1 h
 rw [List.drop_eq_getElem_cons hk, he]
 rfl
theorem edgesGo_end {n : Int} {l : List REdge} {k : Nat} (h : l.length ≤ k) : edgesGo n (l.drop k) = 0 := by
 rw [List.drop_eq_nil_of_le h]; rfl
theorem edgeC_0 {n : Int} {e : REdge} (h : edgeC n e = 0) : 0 ≤ e.a ∧ e.a < n ∧ 0 ≤ e.b ∧ e.b < n ∧ e.a ≠ e.b ∧ rightB e.lo e.hi = true := by
 unfold edgeC at h
 split at h
 ·rename_i g
  have g1 := nodeB_iff.1 g.1
  have g2 := nodeB_iff.1 g.2
  split at h
  ·omega
  ·rename_i g3
   refine ⟨g1.1, g1.2, g2.1, g2.2, g3, ?_⟩
   unfold okC at h
   split at h
   ·assumption
   ·omega
 ·omega
theorem edgesGo_0 {n : Int} : ∀ {l : List REdge}, edgesGo n l = 0 → ∀ e ∈ l, edgeC n e = 0
 | [], _, e, he => absurd he (by simp)
 | x :: l, h, e, he => by
  unfold edgesGo at h
  by_cases c : edgeC n x = 0
  ·rw [if_pos c] at h
   rcases List.mem_cons.1 he with rfl | he
   ·exact c
   ·exact edgesGo_0 h e he
  ·rw [if_neg c] at h; exact absurd h c
theorem edgesC_0 {n : Int} {l : List REdge} (h : edgesC n l = 0) : 1 ≤ n ∧ n ≤ 6 ∧ l.length ≤ 40 ∧ EdgesOk n.toNat l := by
 unfold edgesC at h
 split at h
 ·omega
 ·split at h
  ·omega
  ·refine ⟨by omega, by omega, by omega, fun e he => ?_⟩
   obtain ⟨h1, h2, h3, h4, h5, h6⟩ := edgeC_0 (edgesGo_0 h e he)
   have := rightB_iff.1 h6
   unfold edgeB
   omega
end


section
open Go.RowKit Go.Maps
def RV (v : Value) : Option (DataW Value × List MemPlace) := some (.held v, [])
def MapF (k : TypeId) (w : World) (b n : Nat) (f : Int → Option Value) : Prop :=
 ∃ D : DataW Value, w.ownsMap Tryz.prog k RV b n D ∧ IsMap D ∧ ∀ x : Int, (Lit.int .i64 x).wf = true → ∀ zd, D.atKey (.int .i64 x) zd = match f x with | some v => .held v | none => zd
theorem MapF.lt {k : TypeId} {w : World} {b n : Nat} {f : Int → Option Value} (h : MapF k w b n f) : b < w.heap.size := by
 obtain ⟨D, h1, _⟩ := h
 exact h1.lt
theorem MapF.made (k : TypeId) (w : World) : MapF k (w.alloc (.map #[] 0)) w.heap.size 0 (fun _ => none) :=
 ⟨.map [], World.ownsMap_made _ _ _ _, isMap_empty, fun x _ zd => rfl⟩
theorem MapF.mono {k : TypeId} {w : World} {b n m : Nat} {f : Int → Option Value} (h : MapF k w b n f) (hm : n ≤ m) : MapF k w b m f := by
 obtain ⟨D, h1, h2, h3⟩ := h
 exact ⟨D, h1.mono hm, h2, h3⟩
theorem MapF.kept {k : TypeId} {w w' : World} {b n : Nat} {f : Int → Option Value} {row : Option Nat} (h : MapF k w b n f) (hg : w.grownBy w' row) (hne : some b ≠ row) : MapF k w' b n f := by
 obtain ⟨D, h1, h2, h3⟩ := h
 exact ⟨D, h1.kept hg hne, h2, h3⟩
theorem MapF.alloc {k : TypeId} {w : World} {b n : Nat} {f : Int → Option Value} (h : MapF k w b n f) (o : Obj) : MapF k (w.alloc o) b n f := h.kept (World.grownBy_alloc w o none) (by simp)
theorem MapF.drewN {k : TypeId} {w : World} {b n : Nat} {f : Int → Option Value} (h : MapF k w b n f) (q : Nat) : MapF k (w.drewN q) b n f := h
theorem MapF.drew {k : TypeId} {w : World} {b n : Nat} {f : Int → Option Value} (h : MapF k w b n f) : MapF k w.drew b n f := h
theorem MapF.below {k : TypeId} {w w' : World} {b n B : Nat} {f : Int → Option Value} (h : MapF k w b n f) (hb : Below B w w') (hB : b < B) : MapF k w' b n f := by
 obtain ⟨D, ⟨es, clock, h1, F, hs, hD⟩, h2, h3⟩ := h
 exact ⟨D, ⟨es, clock, (hb.block b hB).trans h1, F, hs, hD⟩, h2, h3⟩
theorem MapF.far {k : TypeId} {w : World} {b n : Nat} {f : Int → Option Value} (h : MapF k w b n f) {p : Addr} (hp : b ≠ p.block) (u : Value) : MapF k (w.setCell p u) b n f := by
 obtain ⟨D, ⟨es, clock, h1, F, hs, hD⟩, h2, h3⟩ := h
 exact ⟨D, ⟨es, clock, (Below.heap_setCell w p u b hp).trans h1, F, hs, hD⟩, h2, h3⟩
theorem held_ne_all {f : Option Value} {v : Value} (h : ∀ zd : DataW Value, (DataW.held v) = match f with | some u => .held u | none => zd) : f = some v := by
 cases f with
 | none => have := h .nil; cases this
 | some u => have := h .nil; simp only [DataW.held.injEq] at this; rw [this]
theorem none_of {f : Option Value} (h : ∀ zd : DataW Value, zd = match f with | some u => .held u | none => zd) : f = none := by
 cases f with
 | none => rfl
 | some u => have := h .nil; cases this
theorem MapF.look {k t e : TypeId} {w : World} {b n : Nat} {f : Int → Option Value} (h : MapF k w b n f) (hk : Tryz.prog.underlying k = some (.int .i64)) (ht : Tryz.prog.underlying t = some (.map k e)) {z : Value} (hz : (zeroValue e).run Tryz.prog w = .ok z w) {x : Int} (hx : (Lit.int .i64 x).wf = true) :
  (Instr.lookup t (.map (some b)) (.int .i64 x) true).run Tryz.prog w = .ok (.tuple #[(f x).getD z, .bool (f x).isSome]) w := by
 obtain ⟨D, ⟨es, clock, hb, F, hs, hD⟩, hm, hf⟩ := h
 have hkey : keyOf Tryz.prog k (.int .i64 x) = some (.int .i64 x) := keyOf_int_mk hk hx
 have hfx := hf x hx
 subst hD
 rcases Maps.fit_look true (int_keyed hk) ht hz hb F hkey with ⟨hrun, _, hat⟩ | ⟨e0, y, _, _, hrun, hRv, hat, _⟩
 ·have : f x = none := none_of fun zd => by rw [← hfx zd]; exact (hat zd).symm
  rw [hrun, this]
  rfl
 ·have hy : y.1 = .held e0.val := by
   unfold RV at hRv
   rw [← Option.some.inj hRv]
  have : f x = some e0.val := held_ne_all fun zd => by rw [← hfx zd, hat zd, hy]
  rw [hrun, this]
  rfl
theorem MapF.put {k t e : TypeId} {w : World} {b n : Nat} {f : Int → Option Value} (h : MapF k w b n f) (hk : Tryz.prog.underlying k = some (.int .i64)) (ht : Tryz.prog.underlying t = some (.map k e)) (hn : n < maxLen) {x : Int} (hx : (Lit.int .i64 x).wf = true) (v : Value) :
  ∃ w', (Instr.mapUpdate t (.map (some b)) (.int .i64 x) v).run Tryz.prog w = .ok () w' ∧ MapF k w' b (n + 1) (fun y => if y = x then some v else f y) ∧ w.grownBy w' (some b) := by
 obtain ⟨D, hown, hm, hf⟩ := h
 have hkey : keyOf Tryz.prog k (.int .i64 x) = some (.int .i64 x) := keyOf_int_mk hk hx
 obtain ⟨w', hrun, r1, r2⟩ := hown.update (int_keyed hk) ht hn hkey (show RV v = some (.held v, []) from rfl)
 refine ⟨w', hrun, ⟨_, r1, hm.put _ _, fun y hy zd => ?_⟩, r2⟩
 by_cases c : y = x
 ·subst c
  rw [atKey_put_same hm ((int_keyed hk).key hkey)]
  simp
 ·rw [atKey_put_other (fun e => c (by injection e)), hf y hy zd]
  simp [c]
theorem wf_i64 {x : Int} (h : -9223372036854775808 ≤ x ∧ x ≤ 9223372036854775807) : (Lit.int .i64 x).wf = true := by
 unfold Lit.wf
 have h1 : IntKind.i64.min = -9223372036854775808 := by decide
 have h2 : IntKind.i64.max = 9223372036854775807 := by decide
 simp [h1, h2]; omega
end


section
open Go.RowKit Go.Maps
theorem step_put {k t e : TypeId} {w : World} {ops : Array Oper} {o : Oper} {a : Act} {K : Act → World → Prop} {Q : Exit → Act → World → Prop} {E : Prop}
  (hg : o.guard = none) (m x v : Operand) (hop : o.op = Op.mapUpdate t m x v) (hk : Tryz.prog.underlying k = some (.int .i64)) (ht : Tryz.prog.underlying t = some (.map k e)) (b n : Nat) (f : Int → Option Value)
  (hm : a.eval m = .map (some b)) (hown : MapF k w b n f) (hn : n < maxLen) (key : Int) (val : Value) (hx : a.eval x = .int .i64 key) (hv : a.eval v = val) (hwf : (Lit.int .i64 key).wf = true)
  (hK : ∀ w', MapF k w' b (n + 1) (fun y => if y = key then some val else f y) → w.grownBy w' (some b) → K (a.put o.dst undef) w') :
  if Region.wanted o (yielded ops a.tmps) = true then Oper.wp Tryz.prog o a w K Q else E := by
 have hw : Region.wanted o (yielded ops a.tmps) = true := by simp [Region.wanted, hg]
 rw [if_pos hw]
 obtain ⟨w', hrun, r1, r2⟩ := hown.put hk ht hn hwf val
 unfold Oper.wp
 simp [execOp, hop, hm, hx, hv, hrun, Result.andThen]
 exact hK w' r1 r2
end


section
open Go.RowKit
def rowOf (N : Nat) (D : Nat → Nat → Int) (i : Nat) : List Int := (List.range N).map (D i)
theorem rowOf_at {N : Nat} {D : Nat → Nat → Int} {i k : Nat} (h : k < N) : (rowOf N D i)[k]? = some (D i k) := by
 unfold rowOf
 rw [List.getElem?_map, List.getElem?_range h]
 rfl
theorem rowOf_len (N : Nat) (D : Nat → Nat → Int) (i : Nat) : (rowOf N D i).length = N := by simp [rowOf]
theorem rowOf_set {N : Nat} {D : Nat → Nat → Int} {i k : Nat} (v : Int) : (rowOf N D i).set k v = rowOf N (up2 D i k v) i := by
 apply List.ext_getElem?
 intro j
 rw [List.getElem?_set]
 by_cases hj : j < N
 ·rw [rowOf_at (D := up2 D i k v) hj]
  by_cases e : k = j
  ·subst e
   rw [if_pos rfl, if_pos (by rw [rowOf_len]; exact hj), up2_at]
  ·rw [if_neg e, rowOf_at hj, up2_ne _ _ (by omega)]
 ·rw [List.getElem?_eq_none (l := rowOf N (up2 D i k v) i) (by rw [rowOf_len]; omega)]
  by_cases e : k = j
  ·subst e
   rw [if_pos rfl, if_neg (by rw [rowOf_len]; omega)]
  ·rw [if_neg e, List.getElem?_eq_none (by rw [rowOf_len]; omega)]
theorem rowOf_ne {N : Nat} {D : Nat → Nat → Int} {i j k : Nat} (v : Int) (h : j ≠ i) : rowOf N (up2 D i k v) j = rowOf N D j := by
 unfold rowOf
 apply List.map_congr_left
 intro a _
 rw [up2_ne _ _ (by omega)]
def slCells (B N i : Nat) : Array Value := ((List.range N).map fun j => if j < i then Value.slice (some ⟨B + 2 + j, 0, none⟩) N N else .slice none 0 0).toArray
theorem slCells_at {B N i j : Nat} (h : j < N) : (slCells B N i)[j]? = some (if j < i then Value.slice (some ⟨B + 2 + j, 0, none⟩) N N else .slice none 0 0) := by
 unfold slCells
 rw [List.getElem?_toArray, List.getElem?_map, List.getElem?_range h]
 rfl
theorem slCells_set {B N i : Nat} : (slCells B N i).setIfInBounds i (.slice (some ⟨B + 2 + i, 0, none⟩) N N) = slCells B N (i + 1) := by
 unfold slCells
 rw [List.setIfInBounds_toArray]
 congr 1
 apply List.ext_getElem?
 intro j
 rw [List.getElem?_set]
 by_cases hj : j < N
 ·rw [List.getElem?_map, List.getElem?_map, List.getElem?_range hj]
  by_cases e : i = j
  ·subst e
   rw [if_pos rfl, if_pos (by simpa using hj)]
   simp
  ·rw [if_neg e]
   simp only [Option.map_some]
   by_cases f : j < i
   ·rw [if_pos f, if_pos (by omega)]
   ·rw [if_neg f, if_neg (by omega)]
 ·by_cases e : i = j
  ·subst e
   rw [if_pos rfl, if_neg (by simp; omega), List.getElem?_eq_none (by simp; omega)]
  ·rw [if_neg e, List.getElem?_eq_none (by simp; omega), List.getElem?_eq_none (by simp; omega)]
theorem made_sl (B N : Nat) : madeCells #[.slice none 0 0] N = slCells B N 0 := by
 apply Array.ext'
 rw [toList_madeCells_one]
 unfold slCells
 apply List.ext_getElem?
 intro j
 simp only [List.getElem?_replicate, Nat.not_lt_zero, if_false, List.getElem?_map]
 by_cases hj : j < N
 ·rw [if_pos hj, List.getElem?_range hj]; rfl
 ·rw [if_neg hj, List.getElem?_eq_none (by simp; omega)]; rfl
structure MatAt (w : World) (B N : Nat) (Tb Ts Ti : TypeId) (i : Nat) (D : Nat → Nat → Int) : Prop where
 outer : Blk w B Ts (slCells B N i)
 box : Blk w (B + 1) Tb #[.slice (some ⟨B, 0, none⟩) N N]
 rows : ∀ j, j < i → Blk w (B + 2 + j) Ti (ICells (rowOf N D j))
section
variable {w : World} {B N : Nat} {Tb Ts Ti : TypeId} {i : Nat} {D : Nat → Nat → Int}
theorem MatAt.cbox (h : MatAt w B N Tb Ts Ti i D) : w.cell? ⟨B + 1, 0, none⟩ = some (.slice (some ⟨B, 0, none⟩) N N) := by
 rw [h.box.cell]; rfl
theorem MatAt.csl (h : MatAt w B N Tb Ts Ti i D) {j : Nat} (hj : j < i) (hN : i ≤ N) : w.cell? ⟨B, j, none⟩ = some (.slice (some ⟨B + 2 + j, 0, none⟩) N N) := by
 rw [h.outer.cell, slCells_at (by omega), if_pos hj]
theorem MatAt.cat (h : MatAt w B N Tb Ts Ti i D) {j k : Nat} (hj : j < i) (hk : k < N) : w.cell? ⟨B + 2 + j, k, none⟩ = some (.int .i64 (D j k)) :=
 (h.rows j hj).iat (rowOf_at hk)
theorem MatAt.fz (h : MatAt w B N Tb Ts Ti i D) {j : Nat} (hj : j < i) (k : Nat) : w.frozen? ⟨B + 2 + j, k, none⟩ = false := (h.rows j hj).fz k
theorem MatAt.lt (h : MatAt w B N Tb Ts Ti i D) {j : Nat} (hj : j < i) : B + 2 + j < w.heap.size := (h.rows j hj).lt
theorem MatAt.drewN (h : MatAt w B N Tb Ts Ti i D) (m : Nat) : MatAt (w.drewN m) B N Tb Ts Ti i D := ⟨h.outer, h.box, h.rows⟩
theorem MatAt.alloc (h : MatAt w B N Tb Ts Ti i D) (o : Obj) : MatAt (w.alloc o) B N Tb Ts Ti i D := ⟨h.outer.alloc o, h.box.alloc o, fun j hj => (h.rows j hj).alloc o⟩
theorem MatAt.set (h : MatAt w B N Tb Ts Ti i D) (j k : Nat) (v : Int) : MatAt (w.setCell ⟨B + 2 + j, k, none⟩ (.int .i64 v)) B N Tb Ts Ti i (up2 D j k v) :=
 ⟨h.outer.far (by simp; omega) _, h.box.far (by simp; omega) _, fun a ha => by
  by_cases e : a = j
  ·subst e
   have := (h.rows a ha).iset k v
   rw [rowOf_set] at this
   exact this
  ·rw [rowOf_ne _ e]
   exact (h.rows a ha).far (by simp; omega) _⟩
theorem MatAt.congr (h : MatAt w B N Tb Ts Ti i D) {E : Nat → Nat → Int} (e : ∀ a b, a < i → b < N → D a b = E a b) : MatAt w B N Tb Ts Ti i E :=
 ⟨h.outer, h.box, fun j hj => by
  have : rowOf N E j = rowOf N D j := by
   unfold rowOf
   apply List.map_congr_left
   intro a ha
   exact (e j a hj (List.mem_range.1 ha)).symm
  rw [this]; exact h.rows j hj⟩
theorem MatAt.below {w' : World} {C : Nat} (h : MatAt w B N Tb Ts Ti i D) (hb : Below C w w') (h1 : B + 1 < C) (h2 : B + 2 + i ≤ C) : MatAt w' B N Tb Ts Ti i D :=
 ⟨h.outer.below hb (by omega), h.box.below hb (by omega), fun j hj => (h.rows j hj).below hb (by omega)⟩
end
end


section
open Go.RowKit
theorem flat_inv {E : Type} (cells : E → List Value) (k : Nat) (hk : ∀ z, (cells z).length = k) (zs : List E) (j : Nat) (u : Value) (h : (zs.flatMap cells)[j]? = some u) : ∃ i q z, j = i * k + q ∧ zs[i]? = some z ∧ (cells z)[q]? = some u := by
 induction zs generalizing j with
 | nil => simp at h
 | cons y zs ih =>
  rw [List.flatMap_cons] at h
  by_cases c : j < k
  ·rw [List.getElem?_append_left (by rw [hk]; exact c)] at h
   exact ⟨0, j, y, by omega, rfl, h⟩
  ·rw [List.getElem?_append_right (by rw [hk]; omega), hk] at h
   obtain ⟨i, q, z, h1, h2, h3⟩ := ih _ h
   exact ⟨i + 1, q, z, by rw [Nat.succ_mul]; omega, by simpa using h2, h3⟩
theorem recs_cell {E : Type} {w : World} {cells : E → List Value} {ok : E → Prop} {k : Nat} {b off n c : Nat} {zs : List E} (hk : ∀ z, (cells z).length = k) (h : IsRecs w cells ok k (some ⟨b, off, none⟩) n c zs) : ∀ j u, (zs.flatMap cells)[j]? = some u → w.cell? ((⟨b, off, none⟩ : Addr).add j) = some u := by
 intro j u hu
 obtain ⟨i, q, z, h1, h2, h3⟩ := flat_inv cells k hk zs j u hu
 have hi := (List.getElem?_eq_some_iff.1 h2).1
 have hl := h.1
 obtain ⟨b', off', e, _, hc⟩ := h.2.2.2.2 (by omega)
 cases e
 have := hc i z h2 q u h3
 rw [show (⟨b, off, none⟩ : Addr).add j = ⟨b, off + j, none⟩ by unfold Addr.add; split <;> simp_all]
 rw [show off + j = off + i * k + q by omega]
 exact this
theorem run_append_owned_zero {P : Program} {w : World} (base : Nat) (t ty e : TypeId) (i : TypeInfo) (size : Nat) (ht : P.underlying t = some (.slice e)) (hi : P.info? e = some i)
  (v : Value) (n : Nat) (xs : List Value) (hown : w.ownsRow base e size v n xs) (A : Option Addr) (c : Nat) :
  (Builtin.append_ #[t, t] ty #[v, .slice A 0 c]).run P w = .ok v w := by
 rcases hown.2 with ⟨rfl, rfl⟩ | ⟨g, cap, cur, rfl, _, _, hnc, _⟩ <;> cases A
 ·simp [Builtin.append_, run_underlying ht, sizeOf, typeInfo, hi, Builtin.lenOf, Builtin.firstCells]
 ·simp [Builtin.append_, run_underlying ht, sizeOf, typeInfo, hi, Builtin.lenOf, Builtin.firstCells, loadCells, loadCellsFrom]
 ·simp [Builtin.append_, run_underlying ht, sizeOf, typeInfo, hi, Builtin.lenOf, Builtin.firstCells, hnc, storeCells]
 ·simp [Builtin.append_, run_underlying ht, sizeOf, typeInfo, hi, Builtin.lenOf, Builtin.firstCells, hnc, storeCells, loadCells, loadCellsFrom]
theorem wpList_append_recs {E : Type} (cells : E → List Value) (ok : E → Prop) (k : Nat) (hk : ∀ z, (cells z).length = k) (h1 : ∀ z, ∀ u ∈ cells z, u.oneCell' = true)
  {P : Program} (w : World) {ops : Array Oper} {rest : List Oper} {o : Oper} {a : Act} {Q : Exit → Act → World → Prop} (hgd : o.guard = none) (s x : Operand) (t : TypeId)
  (ho : o.op = .call { callee := .builtin .append, args := #[s, x], argTypes := #[t, t] })
  (base : Nat) (e : TypeId) (i : TypeInfo) (z : Value) (bytes : Nat) (ht : P.underlying t = some (.slice e)) (hi : P.info? e = some i) (hz : i.zero = some z)
  (hsize : i.size = k) (hby : i.bytes = bytes) (hzs : z.cells.size = k) (hsz : 0 < k)
  (v : Value) (m : Nat) (xs : List Value) (hs : a.eval s = v) (hown : w.ownsRow base e k v m xs)
  (A : Option Addr) (n c : Nat) (zs : List E) (hx : a.eval x = .slice A n c) (hR : IsRecs w cells ok k A n c zs)
  (h63 : m + n ≤ maxLen) (hbytes : (m + n) * bytes ≤ 140737488355328) (hbase : base ≤ w.heap.size)
  (h : ∀ v' w', w'.ownsRow base e k v' (m + n) (xs ++ zs.flatMap cells) → w.grownBy w' v.ownBlock → wpList P ops Q rest (a.put o.dst v') w') : wpList P ops Q (o :: rest) a w := by
 by_cases hn : n = 0
 ·subst hn
  have hzs0 : zs = [] := List.length_eq_zero_iff.1 hR.1
  subst hzs0
  refine wpList_plain hgd fun K hK => ?_
  have hrun := run_append_owned_zero (P := P) (w := w) base t o.type e i k ht hi v m xs hown A c
  unfold Oper.wp
  simp [execOp, ho, resolve, invoke, builtin, hs, hx, hrun, Result.andThen]
  exact hK _ _ (h v w (by simpa using hown) (World.grownBy.refl w _))
 ·obtain ⟨b, off, rfl, _, _⟩ := hR.2.2.2.2 (by omega)
  exact wpList_append_own w hgd s x t ho base e i z k bytes ht hi hz hsize hby hzs hsz v m xs hs hown ⟨b, off, none⟩ n c (zs.flatMap cells) hx (by rw [flat_len cells k hk, hR.1]) (recs_cell hk hR)
   (fun u hu => by obtain ⟨y, _, hy⟩ := List.mem_flatMap.1 hu; exact h1 y u hy) h63 hbytes hbase (fun v' w' q1 q2 _ => h v' w' q1 q2)
theorem blk_type_ne {w : World} {g h : Nat} {T U : TypeId} {cs ds : Array Value} (a : Blk w g T cs) (b : Blk w h U ds) (n : T ≠ U) : g ≠ h := by
 rintro rfl
 unfold Blk at a b
 rw [a] at b
 injection b with b
 injection b with b1 b2
 exact n b2
theorem own_blk {w : World} {B k n g : Nat} {T : TypeId} {v : Value} {xs : List Value} (h : w.ownsRow B T k v n xs) (hg : v.ownBlock = some g) : ∃ cur, Blk w g T cur := by
 rcases h.2 with ⟨rfl, _⟩ | ⟨g', cap, cur, rfl, _, hb, _⟩
 ·cases hg
 ·cases hg
  exact ⟨cur, hb⟩
theorem own_apart {w : World} {B C k l n m : Nat} {T U : TypeId} {v u : Value} {xs ys : List Value} (h : w.ownsRow B T k v n xs) (g : w.ownsRow C U l u m ys) (hT : T ≠ U) : v.ownBlock = none ∨ v.ownBlock ≠ u.ownBlock := by
 cases hv : v.ownBlock with
 | none => exact .inl rfl
 | some q =>
  right
  intro e
  obtain ⟨c1, b1⟩ := own_blk h hv
  obtain ⟨c2, b2⟩ := own_blk g e.symm
  exact blk_type_ne b1 b2 hT rfl
theorem own_blk_far {w w' : World} {B k n b : Nat} {T U : TypeId} {v : Value} {xs : List Value} {cs : Array Value} (h : w.ownsRow B T k v n xs) (hg : w.grownBy w' v.ownBlock) (hb : Blk w b U cs) (hT : U ≠ T) : Blk w' b U cs :=
 hb.grown hg (fun e => by
  obtain ⟨c1, b1⟩ := own_blk h e.symm
  exact blk_type_ne hb b1 hT rfl)
end


section
open Go.RowKit
theorem edgesGo_all {N : Int} : ∀ {l : List REdge}, (∀ e ∈ l, edgeC N e = 0) → edgesGo N l = 0
 | [], _ => rfl
 | e :: l, h => by
  show (if edgeC N e = 0 then edgesGo N l else edgeC N e) = 0
  rw [if_pos (h e (by simp))]
  exact edgesGo_all fun x hx => h x (by simp [hx])
end


section
open Go.RowKit
theorem arc_rev {l : List REdge} {x y : Nat} {w : Int} (h : Arc l x y w) : ∃ v, Arc l y x v := by
 obtain ⟨e, he, ⟨h1, h2, h3⟩ | ⟨h1, h2, h3⟩⟩ := h
 ·exact ⟨-e.lo, e, he, .inr ⟨h2, h1, rfl⟩⟩
 ·exact ⟨e.hi, e, he, .inl ⟨h2, h1, rfl⟩⟩
theorem way_rev {l : List REdge} {a b r : Nat} {c : Int} (h : Way (Arc l) a b r c) : ∃ s d, Way (Arc l) b a s d := by
 induction h with
 | start => exact ⟨0, 0, .start⟩
 | go _ hw ih =>
  obtain ⟨s, d, h1⟩ := ih
  obtain ⟨v, hv⟩ := arc_rev hw
  exact ⟨1 + s, v + d, (Way.one hv).app h1⟩
end


section
open Go.RowKit
def leapB (y : Int) : Bool := decide (y % 4 = 0) && (!decide (y % 100 = 0) || decide (y % 400 = 0))
def leapN (y : Int) : Int := if leapB y = true then 1 else 0
def firstD (y : Int) : Int := (y - 1970) * 365 + ((y - 1) / 4 - (y - 1) / 100 + (y - 1) / 400) - 477
def beforeD (m : Int) : Int := if m ≤ 1 then 0 else if m = 2 then 31 else if m = 3 then 59 else if m = 4 then 90 else if m = 5 then 120 else if m = 6 then 151 else if m = 7 then 181 else if m = 8 then 212 else if m = 9 then 243 else if m = 10 then 273 else if m = 11 then 304 else if m = 12 then 334 else 365
def daysD (y m : Int) : Int := beforeD (m + 1) - beforeD m + (if m = 2 then leapN y else 0)
def aheadD (y m : Int) : Int := beforeD m + (if 2 < m then leapN y else 0)
theorem leapN_01 (y : Int) : 0 ≤ leapN y ∧ leapN y ≤ 1 := by unfold leapN; split <;> omega
theorem firstD_succ (y : Int) : firstD (y + 1) = firstD y + 365 + leapN y := by
 unfold firstD leapN leapB
 by_cases a : y % 4 = 0 <;> by_cases b : y % 100 = 0 <;> by_cases c : y % 400 = 0 <;> simp [a, b, c] <;> omega
def ymB (y m : Int) : Bool := decide (1970 ≤ y) && (decide (y ≤ 2199) && (decide (1 ≤ m) && decide (m ≤ 12)))
def dateB (y m d : Int) : Bool := ymB y m && (decide (1 ≤ d) && decide (d ≤ daysD y m))
def numD (y m d : Int) : Int := firstD y + aheadD y m + d - 1
def lastDay : Int := firstD 2200 - 1
theorem lastDay_eq : lastDay = 84005 := by decide
theorem aheadD_succ (y m : Int) (h1 : 1 ≤ m) (h2 : m ≤ 12) : aheadD y (m + 1) = aheadD y m + daysD y m := by
 have hc : m = 1 ∨ m = 2 ∨ m = 3 ∨ m = 4 ∨ m = 5 ∨ m = 6 ∨ m = 7 ∨ m = 8 ∨ m = 9 ∨ m = 10 ∨ m = 11 ∨ m = 12 := by omega
 unfold aheadD daysD
 rcases hc with rfl | rfl | rfl | rfl | rfl | rfl | rfl | rfl | rfl | rfl | rfl | rfl <;> simp [beforeD] <;> omega
theorem before_bd (m : Int) : 0 ≤ beforeD m ∧ beforeD m ≤ 365 := by
 unfold beforeD
 (repeat' split) <;> omega
theorem firstD_bd {y : Int} (h1 : 1970 ≤ y) (h2 : y ≤ 2200) : 0 ≤ firstD y ∧ firstD y ≤ 84006 := by unfold firstD; omega
theorem aheadD_bd (y m : Int) : 0 ≤ aheadD y m ∧ aheadD y m ≤ 366 := by
 have := before_bd m
 have := leapN_01 y
 unfold aheadD
 split <;> omega
theorem daysD_bd {y m : Int} (h1 : 1 ≤ m) (h2 : m ≤ 12) : 28 ≤ daysD y m ∧ daysD y m ≤ 31 := by
 have hc : m = 1 ∨ m = 2 ∨ m = 3 ∨ m = 4 ∨ m = 5 ∨ m = 6 ∨ m = 7 ∨ m = 8 ∨ m = 9 ∨ m = 10 ∨ m = 11 ∨ m = 12 := by omega
 have := leapN_01 y
 unfold daysD
 rcases hc with rfl | rfl | rfl | rfl | rfl | rfl | rfl | rfl | rfl | rfl | rfl | rfl <;> simp [beforeD] <;> omega
theorem dateB_bd {y m d : Int} (h : dateB y m d = true) : 1970 ≤ y ∧ y ≤ 2199 ∧ 1 ≤ m ∧ m ≤ 12 ∧ 1 ≤ d ∧ d ≤ 31 := by
 simp only [dateB, ymB, Bool.and_eq_true, decide_eq_true_eq] at h
 have := daysD_bd (y := y) (m := m) (by omega) (by omega)
 omega
theorem ahead_13 (y : Int) : aheadD y 13 = 365 + leapN y := rfl
theorem ahead_1 (y : Int) : aheadD y 1 = 0 := rfl
theorem ahead_mono {y a b : Int} (h1 : 1 ≤ a) (h2 : a ≤ b) (h3 : b ≤ 13) : aheadD y a ≤ aheadD y b := by
 obtain ⟨k, rfl⟩ : ∃ k : Nat, b = a + k := ⟨(b - a).toNat, by omega⟩
 induction k with
 | zero => simp
 | succ k ih =>
  have := ih (by omega) (by omega)
  have e := aheadD_succ y (a + k) (by omega) (by omega)
  have := daysD_bd (y := y) (m := a + k) (by omega) (by omega)
  rw [show a + ((k + 1 : Nat) : Int) = a + k + 1 by omega]
  omega
theorem first_mono {a b : Int} (h1 : 1970 ≤ a) (h2 : a ≤ b) : firstD a ≤ firstD b := by unfold firstD; omega
theorem date_within {y m d n : Int} (h : dateB y m d = true) (hn : numD y m d = n) : firstD y ≤ n ∧ n < firstD (y + 1) ∧ aheadD y m ≤ n - firstD y ∧ n - firstD y < aheadD y (m + 1) := by
 obtain ⟨g1, g2, g3, g4, g5, g6⟩ := dateB_bd h
 have hd : d ≤ daysD y m := by simp only [dateB, Bool.and_eq_true, decide_eq_true_eq] at h; omega
 have e := aheadD_succ y m g3 g4
 have := aheadD_bd y m
 have := firstD_succ y
 have := ahead_13 y
 have := ahead_mono (y := y) (a := m + 1) (b := 13) (by omega) (by omega) (by omega)
 unfold numD at hn
 omega
theorem first_guess (n y : Int) (h0 : 0 ≤ n) (h1 : 1970 ≤ y) (h : n < firstD (y + 1)) : 1970 + n / 366 ≤ y := by
 rcases Int.lt_or_le y (1970 + n / 366) with hlt | hle
 ·exfalso
  have : firstD (y + 1) ≤ firstD (1970 + n / 366) := first_mono (by omega) (by omega)
  have : firstD (1970 + n / 366) ≤ n := by unfold firstD; omega
  omega
 ·exact hle
theorem num_top {y n : Int} (h : y ≤ 2199) (h1 : n < firstD (y + 1)) : n ≤ 84005 := by unfold firstD at h1; omega
end


section
open Go.RowKit
def byL (x : RLeap) : Int := if x.up = true then 1 else -1
theorem byL_bd (x : RLeap) : -1 ≤ byL x ∧ byL x ≤ 1 := by unfold byL; split <;> omega
def moreL : List RLeap → Int → Int
 | [], _ => 0
 | x :: l, d => (if x.day < d then byL x else 0) + moreL l d
theorem moreL_snoc (l : List RLeap) (x : RLeap) (d : Int) : moreL (l ++ [x]) d = moreL l d + (if x.day < d then byL x else 0) := by
 induction l with
 | nil => simp [moreL]
 | cons y l ih => simp only [List.cons_append, moreL, ih]; omega
theorem moreL_bd (l : List RLeap) (d : Int) : -(l.length : Int) ≤ moreL l d ∧ moreL l d ≤ l.length := by
 induction l with
 | nil => simp [moreL]
 | cons y l ih =>
  have := byL_bd y
  simp only [moreL, List.length_cons]
  split <;> omega
def beginL (l : List RLeap) (d : Int) : Int := 86400 * d + moreL l d
def chkL : Int → List RLeap → Int
 | _, [] => 0
 | p, x :: l => if x.day < 1 ∨ 84005 ≤ x.day then 1 else if x.day < p + 2 then 3 else chkL x.day l
def leapsC (l : List RLeap) : Int := if 20 < l.length then 4 else chkL (-1) l
def prevL (l : List RLeap) : Nat → Int
 | 0 => -1
 | i + 1 => (l[i]?.map (·.day)).getD (-1)
structure LeapGood (l : List RLeap) : Prop where
 len : l.length ≤ 20
 chk : chkL (-1) l = 0
theorem leapsC_0 {l : List RLeap} (h : leapsC l = 0) : LeapGood l := by
 unfold leapsC at h
 split at h
 ·omega
 ·exact ⟨by omega, h⟩
theorem leapsC_of {l : List RLeap} (h : LeapGood l) : leapsC l = 0 := by
 unfold leapsC
 rw [if_neg (by have := h.len; omega)]; exact h.chk
theorem chkL_cons {p : Int} {x : RLeap} {l : List RLeap} (h : chkL p (x :: l) = 0) : 1 ≤ x.day ∧ x.day < 84005 ∧ p + 2 ≤ x.day ∧ chkL x.day l = 0 := by
 unfold chkL at h
 split at h
 ·omega
 ·split at h
  ·omega
  ·exact ⟨by omega, by omega, by omega, h⟩
theorem chkL_mem {p : Int} {l : List RLeap} (h : chkL p l = 0) : ∀ x ∈ l, 1 ≤ x.day ∧ x.day < 84005 ∧ p + 2 ≤ x.day := by
 induction l generalizing p with
 | nil => simp
 | cons x l ih =>
  obtain ⟨h1, h2, h3, h4⟩ := chkL_cons h
  intro z hz
  rcases List.mem_cons.1 hz with rfl | hz
  ·exact ⟨h1, h2, h3⟩
  ·have := ih h4 z hz; omega
def atL : List RLeap → Int → Int
 | [], _ => 0
 | x :: l, d => (if x.day = d then byL x else 0) + atL l d
theorem moreL_succ (l : List RLeap) (d : Int) : moreL l (d + 1) = moreL l d + atL l d := by
 induction l with
 | nil => rfl
 | cons x l ih =>
  simp only [moreL, atL, ih]
  rcases Int.lt_trichotomy x.day d with h | h | h
  ·rw [if_pos (by omega), if_pos h, if_neg (by omega)]; omega
  ·rw [if_pos (by omega), if_neg (by omega), if_pos h]; omega
  ·rw [if_neg (by omega), if_neg (by omega), if_neg (by omega)]; omega
theorem atL_far {p : Int} {l : List RLeap} (h : chkL p l = 0) {d : Int} (hd : d < p + 2) : atL l d = 0 := by
 have hm := chkL_mem h
 clear h
 induction l with
 | nil => rfl
 | cons x l ih =>
  unfold atL
  rw [if_neg (by have := hm x (by simp); omega), ih (fun z hz => hm z (by simp [hz]))]; rfl
theorem atL_one {p : Int} {l : List RLeap} (h : chkL p l = 0) (d : Int) : (atL l d = 0 ∧ ∀ x ∈ l, x.day ≠ d) ∨ ∃ x ∈ l, x.day = d ∧ atL l d = byL x := by
 induction l generalizing p with
 | nil => left; exact ⟨rfl, by simp⟩
 | cons x l ih =>
  obtain ⟨h1, h2, h3, h4⟩ := chkL_cons h
  by_cases hx : x.day = d
  ·right
   refine ⟨x, by simp, hx, ?_⟩
   unfold atL
   rw [if_pos hx, atL_far h4 (by omega)]; omega
  ·unfold atL
   rw [if_neg hx]
   rcases ih h4 with ⟨h5, h6⟩ | ⟨y, hy, h5, h6⟩
   ·left
    refine ⟨by omega, fun z hz => ?_⟩
    rcases List.mem_cons.1 hz with rfl | hz
    ·exact hx
    ·exact h6 z hz
   ·right; exact ⟨y, by simp [hy], h5, by omega⟩
theorem atL_bd {l : List RLeap} (h : LeapGood l) (d : Int) : -1 ≤ atL l d ∧ atL l d ≤ 1 := by
 rcases atL_one h.chk d with ⟨h, _⟩ | ⟨x, _, _, h⟩
 ·omega
 ·have := byL_bd x; omega
theorem beginL_succ (l : List RLeap) (d : Int) : beginL l (d + 1) = beginL l d + 86400 + atL l d := by
 unfold beginL; have := moreL_succ l d; omega
theorem beginL_bd {l : List RLeap} (h : LeapGood l) (d : Int) : 86400 * d - 20 ≤ beginL l d ∧ beginL l d ≤ 86400 * d + 20 := by
 have := moreL_bd l d
 have := h.len
 unfold beginL; omega
theorem beginL_mono {l : List RLeap} (h : LeapGood l) {a b : Int} (hab : a ≤ b) : beginL l a ≤ beginL l b := by
 rcases Int.lt_or_le a b with hlt | hle
 ·have := beginL_bd h a
  have := beginL_bd h b
  rcases Int.lt_or_le (a + 1) b with h2 | h2
  ·omega
  ·have := beginL_succ l a
   have := atL_bd h a
   have : b = a + 1 := by omega
   subst this; omega
 ·have : a = b := by omega
  subst this; omega
theorem beginL_0 {l : List RLeap} (h : LeapGood l) : beginL l 0 = 0 := by
 have : moreL l 0 = 0 := by
  have hm := chkL_mem h.chk
  clear h
  induction l with
  | nil => rfl
  | cons x l ih =>
   unfold moreL
   rw [if_neg (by have := hm x (by simp); omega), ih (fun z hz => hm z (by simp [hz]))]; rfl
 unfold beginL; omega
theorem moreL_take_succ {l : List RLeap} {i : Nat} {x : RLeap} (h : l[i]? = some x) (d : Int) : moreL (l.take (i + 1)) d = moreL (l.take i) d + (if x.day < d then byL x else 0) := by
 have hl := (List.getElem?_eq_some_iff.1 h).1
 rw [List.take_succ_eq_append_getElem hl, moreL_snoc, (List.getElem?_eq_some_iff.1 h).2]
theorem moreL_take_bd (l : List RLeap) (i : Nat) (d : Int) (h : l.length ≤ 1000) : -1000 ≤ moreL (l.take i) d ∧ moreL (l.take i) d ≤ 1000 := by
 have := moreL_bd (l.take i) d
 have : (l.take i).length ≤ l.length := by rw [List.length_take]; omega
 omega
theorem chk_step {l : List RLeap} {i : Nat} {x : RLeap} (h : l[i]? = some x) : chkL (prevL l i) (l.drop i) = if x.day < 1 ∨ 84005 ≤ x.day then 1 else if x.day < prevL l i + 2 then 3 else chkL (prevL l (i + 1)) (l.drop (i + 1)) := by
 have hl := (List.getElem?_eq_some_iff.1 h).1
 have hd : l.drop i = x :: l.drop (i + 1) := by rw [List.drop_eq_getElem_cons hl]; congr 1; exact (List.getElem?_eq_some_iff.1 h).2
 rw [hd, chkL]
 have : prevL l (i + 1) = x.day := by simp [prevL, h]
 rw [this]
theorem day_guess {l : List RLeap} (h : LeapGood l) {n d : Int} (h0 : 0 ≤ d) (k2 : n < beginL l (d + 1)) : n / 86400 - 1 ≤ d := by
 rcases Int.lt_or_le d (n / 86400 - 1) with hlt | hle
 ·exfalso
  have := beginL_bd h (d + 1)
  omega
 ·exact hle
theorem n_bd {l : List RLeap} (h : LeapGood l) {n d : Int} (h0 : 0 ≤ d) (h1 : d ≤ 84005) (k1 : beginL l d ≤ n) (k2 : n < beginL l (d + 1)) : 0 ≤ n ∧ n ≤ 7258118420 := by
 have := beginL_bd h (d + 1)
 have := beginL_mono h h0
 have := beginL_0 h
 omega
def readyC (l : List RLeap) (t : Int) : Int := if leapsC l = 0 then (if t < 0 ∨ beginL l 84006 ≤ t then 1 else 0) else leapsC l
theorem ready_0 {l : List RLeap} {t d : Int} (hg : LeapGood l) (h0 : 0 ≤ d) (h1 : d ≤ 84005) (k1 : beginL l d ≤ t) (k2 : t < beginL l (d + 1)) : readyC l t = 0 := by
 have := n_bd hg h0 h1 k1 k2
 have := beginL_mono hg (show d + 1 ≤ 84006 by omega)
 unfold readyC
 rw [if_pos (leapsC_of hg), if_neg (by omega)]
def labH (s : Int) : Int := if 86400 ≤ s then 23 else s / 3600
def labM (s : Int) : Int := if 86400 ≤ s then 59 else s / 60 % 60
def labS (s : Int) : Int := if 86400 ≤ s then 60 else s % 60
theorem sec_bd {l : List RLeap} (h : LeapGood l) {t d : Int} (k1 : beginL l d ≤ t) (k2 : t < beginL l (d + 1)) : 0 ≤ t - beginL l d ∧ t - beginL l d ≤ 86400 ∧ (t - beginL l d = 86400 → atL l d = 1) := by
 have := beginL_succ l d
 have := atL_bd h d
 omega
theorem chk_one {p : Int} {l : List RLeap} (h : chkL p l = 0) {x y : RLeap} (hx : x ∈ l) (hy : y ∈ l) (e : x.day = y.day) : x = y := by
 induction l generalizing p with
 | nil => simp at hx
 | cons z l ih =>
  obtain ⟨_, _, _, h4⟩ := chkL_cons h
  have hm := chkL_mem h4
  rcases List.mem_cons.1 hx with e1 | e1
  ·rcases List.mem_cons.1 hy with e2 | e2
   ·rw [e1, e2]
   ·have := hm y e2; rw [e1] at e; omega
  ·rcases List.mem_cons.1 hy with e2 | e2
   ·have := hm x e1; rw [e2] at e; omega
   ·exact ih h4 e1 e2
theorem atL_mem {l : List RLeap} (h : LeapGood l) {x : RLeap} (hx : x ∈ l) : atL l x.day = byL x := by
 rcases atL_one h.chk x.day with ⟨_, h2⟩ | ⟨y, hy, e, h2⟩
 ·exact absurd rfl (h2 x hx)
 ·rw [h2, chk_one h.chk hx hy e.symm]
theorem atL_none {l : List RLeap} (h : LeapGood l) {d : Int} (hd : ∀ x ∈ l, x.day ≠ d) : atL l d = 0 := by
 rcases atL_one h.chk d with ⟨h1, _⟩ | ⟨y, hy, e, _⟩
 ·exact h1
 ·exact absurd e (hd y hy)
end


section
open Go.RowKit
def dgU (n : Int) : UInt8 := UInt8.ofNat (48 + (n % 10).toNat)
theorem dgU_toNat (n : Int) : ((dgU n).toNat : Int) = 48 + n % 10 := by
 unfold dgU
 rw [UInt8.toNat_ofNat']
 omega
def pad2 (n : Int) : List UInt8 := [dgU (n / 10), dgU n]
def pad4 (n : Int) : List UInt8 := [dgU (n / 1000), dgU (n / 100), dgU (n / 10), dgU n]
def dateT (y m d : Int) : List UInt8 := pad4 y ++ (45 :: (pad2 m ++ (45 :: pad2 d)))
theorem dateB_iff {y m d : Int} : dateB y m d = true ↔ 1970 ≤ y ∧ y ≤ 2199 ∧ 1 ≤ m ∧ m ≤ 12 ∧ 1 ≤ d ∧ d ≤ daysD y m := by
 simp only [dateB, ymB, Bool.and_eq_true, decide_eq_true_eq]; omega
theorem next_a {y m d n : Int} (h : dateB y m d = true) (hn : numD y m d = n) (hd : d < daysD y m) : dateB y m (d + 1) = true ∧ numD y m (d + 1) = n + 1 := by
 have := dateB_iff.1 h
 exact ⟨dateB_iff.2 (by omega), by unfold numD at hn ⊢; omega⟩
theorem next_b {y m d n : Int} (h : dateB y m d = true) (hn : numD y m d = n) (hd : ¬ d < daysD y m) (hm : m < 12) : dateB y (m + 1) 1 = true ∧ numD y (m + 1) 1 = n + 1 := by
 have := dateB_iff.1 h
 have := daysD_bd (y := y) (m := m + 1) (by omega) (by omega)
 have := aheadD_succ y m (by omega) (by omega)
 exact ⟨dateB_iff.2 (by omega), by unfold numD at hn ⊢; omega⟩
theorem last_num : numD 2199 12 31 = 84005 := by decide
theorem next_c {y m d n : Int} (h : dateB y m d = true) (hn : numD y m d = n) (hd : ¬ d < daysD y m) (hm : ¬ m < 12) (h5 : n < 84005) : dateB (y + 1) 1 1 = true ∧ numD (y + 1) 1 1 = n + 1 := by
 have := dateB_iff.1 h
 obtain rfl : m = 12 := by omega
 have e : daysD y 12 = 31 := rfl
 obtain rfl : d = 31 := by omega
 have := daysD_bd (y := y + 1) (m := 1) (by omega) (by omega)
 have := aheadD_succ y 12 (by omega) (by omega)
 have := firstD_succ y
 have a13 : aheadD y (12 + 1) = 365 + leapN y := rfl
 have a1 := ahead_1 (y + 1)
 have : y < 2199 := by
  rcases Int.lt_or_le y 2199 with hlt | hle
  ·exact hlt
  ·obtain rfl : y = 2199 := by omega
   have := last_num
   omega
 exact ⟨dateB_iff.2 (by omega), by unfold numD at hn ⊢; omega⟩
theorem date_of {n : Int} (h0 : 0 ≤ n) (h1 : n ≤ 84005) : ∃ y m d, dateB y m d = true ∧ numD y m d = n := by
 obtain ⟨k, rfl⟩ : ∃ k : Nat, n = k := ⟨n.toNat, by omega⟩
 clear h0
 induction k with
 | zero => exact ⟨1970, 1, 1, by decide, by decide⟩
 | succ k ih =>
  obtain ⟨y, m, d, hd, hn⟩ := ih (by omega)
  rw [show ((k + 1 : Nat) : Int) = (k : Int) + 1 by omega]
  by_cases a : d < daysD y m
  ·exact ⟨_, _, _, next_a hd hn a⟩
  ·by_cases b : m < 12
   ·exact ⟨_, _, _, next_b hd hn a b⟩
   ·exact ⟨_, _, _, next_c hd hn a b (by omega)⟩
end


section
open Go.RowKit
def labB (x : RLabel) : Bool := dateB x.year x.month x.day && (decide (0 ≤ x.h) && (decide (x.h ≤ 23) && (decide (0 ≤ x.m) && (decide (x.m ≤ 59) && (decide (0 ≤ x.s) && decide (x.s ≤ 60))))))
theorem labB_iff {x : RLabel} : labB x = true ↔ dateB x.year x.month x.day = true ∧ 0 ≤ x.h ∧ x.h ≤ 23 ∧ 0 ≤ x.m ∧ x.m ≤ 59 ∧ 0 ≤ x.s ∧ x.s ≤ 60 := by
 simp only [labB, Bool.and_eq_true, decide_eq_true_eq]
theorem labB_no {x : RLabel} (h : dateB x.year x.month x.day = false ∨ x.h < 0 ∨ 23 < x.h ∨ x.m < 0 ∨ 59 < x.m ∨ x.s < 0 ∨ 60 < x.s) : labB x = false := by
 cases hb : labB x with
 | false => rfl
 | true =>
  have := labB_iff.1 hb
  rcases h with h | h
  ·rw [this.1] at h; cases h
  ·omega
def labT (x : RLabel) : List UInt8 := dateT x.year x.month x.day ++ (84 :: (pad2 x.h ++ (58 :: (pad2 x.m ++ (58 :: pad2 x.s)))))
theorem labT_len (x : RLabel) : (labT x).length = 19 := rfl
def longL (l : List RLeap) (d : Int) : Int := beginL l (d + 1) - beginL l d
end


section
open Go.RowKit
structure RowT (l : List REdge) (i R k S : Nat) (d : Nat → Int) (h : Nat → Bool) : Prop where
 snd : ∀ b, h b = true → ∃ r, r ≤ S ∧ Way (Arc l) i b r (d b)
 cpl : ∀ r b c, r ≤ R → Way (Arc l) i b r c → h b = true ∧ d b ≤ c
 nxt : ∀ r x b c w, r ≤ R → Way (Arc l) i x r c → Arc (l.take k) x b w → h b = true ∧ d b ≤ c + w
theorem RowT.init (l : List REdge) (i : Nat) (d : Nat → Int) (h : Nat → Bool) (hd : d i = 0) (hh : ∀ b, h b = true ↔ b = i) : RowT l i 0 0 0 d h :=
 ⟨fun b hb => by
  obtain rfl := (hh b).1 hb
  exact ⟨0, Nat.le_refl _, by rw [hd]; exact .start⟩, fun r b c hr hw => by
  obtain rfl : r = 0 := by omega
  cases hw
  exact ⟨(hh _).2 rfl, by omega⟩, fun r x b c w hr hw ha => by
  obtain ⟨e, he, _⟩ := ha
  simp at he⟩
def up1 (d : Nat → Int) (b : Nat) (v : Int) : Nat → Int := fun j => if j = b then v else d j
def upB (h : Nat → Bool) (b : Nat) : Nat → Bool := fun j => if j = b then true else h j
def tryD (d : Nat → Int) (h : Nat → Bool) (a b : Nat) (w : Int) : Nat → Int := if h a = true ∧ (h b = false ∨ d a + w < d b) then up1 d b (d a + w) else d
def tryH (d : Nat → Int) (h : Nat → Bool) (a b : Nat) (w : Int) : Nat → Bool := if h a = true ∧ (h b = false ∨ d a + w < d b) then upB h b else h
theorem try_le (d : Nat → Int) (h : Nat → Bool) (a b : Nat) (w : Int) (j : Nat) (hj : h j = true) : tryH d h a b w j = true ∧ tryD d h a b w j ≤ d j := by
 unfold tryH tryD
 split
 ·rename_i c
  unfold upB up1
  by_cases e : j = b
  ·subst e
   simp only [if_true]
   rcases c.2 with q | q
   ·rw [q] at hj; cases hj
   ·exact ⟨trivial, by omega⟩
  ·simp only [if_neg e]; exact ⟨hj, Int.le_refl _⟩
 ·exact ⟨hj, Int.le_refl _⟩
theorem try_at (d : Nat → Int) (h : Nat → Bool) (a b : Nat) (w : Int) (ha : h a = true) (hab : a ≠ b) : tryH d h a b w b = true ∧ tryD d h a b w b ≤ d a + w := by
 unfold tryH tryD
 split
 ·unfold upB up1
  simp only [if_true]
  exact ⟨trivial, Int.le_refl _⟩
 ·rename_i c
  cases hb : h b
  ·exact absurd ⟨ha, .inl hb⟩ c
  ·refine ⟨rfl, ?_⟩
   rcases Int.lt_or_le (d a + w) (d b) with q | q
   ·exact absurd ⟨ha, .inr q⟩ c
   ·exact q
theorem try_snd {l : List REdge} {i S : Nat} {d : Nat → Int} {h : Nat → Bool} {a b : Nat} {w : Int} (hw : Arc l a b w) (g : ∀ b, h b = true → ∃ r, r ≤ S ∧ Way (Arc l) i b r (d b)) :
  ∀ j, tryH d h a b w j = true → ∃ r, r ≤ S + 1 ∧ Way (Arc l) i j r (tryD d h a b w j) := by
 intro j hj
 unfold tryH at hj
 unfold tryD
 split at hj
 ·rename_i c
  rw [if_pos c]
  unfold upB at hj
  unfold up1
  by_cases e : j = b
  ·subst e
   rw [if_pos rfl]
   obtain ⟨r, h1, h2⟩ := g a c.1
   exact ⟨r + 1, by omega, .go h2 hw⟩
  ·rw [if_neg e] at hj ⊢
   obtain ⟨r, h1, h2⟩ := g j hj
   exact ⟨r, by omega, h2⟩
 ·rename_i c
  rw [if_neg c]
  obtain ⟨r, h1, h2⟩ := g j hj
  exact ⟨r, by omega, h2⟩
def edD (d : Nat → Int) (h : Nat → Bool) (a b : Nat) (lo hi : Int) : Nat → Int := tryD (tryD d h a b hi) (tryH d h a b hi) b a (-lo)
def edH (d : Nat → Int) (h : Nat → Bool) (a b : Nat) (lo hi : Int) : Nat → Bool := tryH (tryD d h a b hi) (tryH d h a b hi) b a (-lo)
theorem RowT.step {n : Nat} {l : List REdge} {i R k S : Nat} {d : Nat → Int} {h : Nat → Bool} (hl : EdgesOk n l) (g : RowT l i R k S d h) {e : REdge} (he : l[k]? = some e) {a b : Nat} (ha : e.a = a) (hb : e.b = b) :
  RowT l i R (k + 1) (S + 2) (edD d h a b e.lo e.hi) (edH d h a b e.lo e.hi) := by
 have hm := List.mem_of_getElem? he
 have hk := hl e hm
 unfold edgeB at hk
 have hab : a ≠ b := by omega
 have ab : Arc l a b e.hi := ⟨e, hm, .inl ⟨by omega, by omega, rfl⟩⟩
 have ba : Arc l b a (-e.lo) := ⟨e, hm, .inr ⟨by omega, by omega, rfl⟩⟩
 have mo : ∀ j, h j = true → edH d h a b e.lo e.hi j = true ∧ edD d h a b e.lo e.hi j ≤ d j := fun j hj => by
  have h1 := try_le d h a b e.hi j hj
  have h2 := try_le (tryD d h a b e.hi) (tryH d h a b e.hi) b a (-e.lo) j h1.1
  exact ⟨h2.1, Int.le_trans h2.2 h1.2⟩
 refine ⟨fun j hj => ?_, fun r j c hr hw => ?_, fun r x j c w hr hw hx => ?_⟩
 ·obtain ⟨r, h1, h2⟩ := try_snd ba (try_snd ab g.snd) j hj
  exact ⟨r, by omega, h2⟩
 ·have h1 := g.cpl r j c hr hw
  have h2 := mo j h1.1
  exact ⟨h2.1, by omega⟩
 ·rcases take_arc he hx with q | ⟨q1, q2, q3⟩ | ⟨q1, q2, q3⟩
  ·have h1 := g.nxt r x j c w hr hw q
   have h2 := mo j h1.1
   exact ⟨h2.1, by omega⟩
  ·obtain rfl : a = x := by omega
   obtain rfl : b = j := by omega
   have h1 := g.cpl r a c hr hw
   have h2 := try_at d h a b e.hi h1.1 hab
   have h3 := try_le (tryD d h a b e.hi) (tryH d h a b e.hi) b a (-e.lo) b h2.1
   exact ⟨h3.1, by unfold edD; omega⟩
  ·obtain rfl : b = x := by omega
   obtain rfl : a = j := by omega
   have h1 := g.cpl r b c hr hw
   have h2 := try_le d h a b e.hi b h1.1
   have h3 := try_at (tryD d h a b e.hi) (tryH d h a b e.hi) b a (-e.lo) h2.1 (fun q => hab q.symm)
   exact ⟨h3.1, by unfold edD; omega⟩
theorem RowT.next {l : List REdge} {i R S : Nat} {d : Nat → Int} {h : Nat → Bool} (g : RowT l i R l.length S d h) : RowT l i (R + 1) 0 S d h :=
 ⟨g.snd, fun r b c hr hw => by
  by_cases e : r ≤ R
  ·exact g.cpl r b c e hw
  ·obtain rfl : r = R + 1 := by omega
   cases hw with
   | go hw' ha => exact g.nxt R _ b _ _ (Nat.le_refl _) hw' (by rw [List.take_length]; exact ha), fun r x b c w hr hw ha => by
  obtain ⟨e, he, _⟩ := ha
  simp at he⟩
theorem way_bd {n : Nat} {l : List REdge} (hl : EdgesOk n l) {a b r : Nat} {c : Int} (h : Way (Arc l) a b r c) : -(1000000000000 * (r : Int)) ≤ c ∧ c ≤ 1000000000000 * (r : Int) := by
 induction h with
 | start => simp
 | @go x y r c w _ hw ih =>
  have := hw.bd hl
  have e : ((r + 1 : Nat) : Int) = (r : Int) + 1 := by omega
  rw [e]
  omega
theorem RowT.bd {n : Nat} {l : List REdge} {i R k S : Nat} {d : Nat → Int} {h : Nat → Bool} (hl : EdgesOk n l) (g : RowT l i R k S d h) (hS : S ≤ 2000) {b : Nat} (hb : h b = true) : -2000000000000000 ≤ d b ∧ d b ≤ 2000000000000000 := by
 obtain ⟨r, h1, h2⟩ := g.snd b hb
 have := way_bd hl h2
 omega
theorem RowT.mid {n : Nat} {l : List REdge} {i R k S : Nat} {d : Nat → Int} {h : Nat → Bool} (hl : EdgesOk n l) (g : RowT l i R k S d h) (hS : S + 1 ≤ 2000) {a b : Nat} {w : Int} (hw : Arc l a b w) {j : Nat} (hj : tryH d h a b w j = true) :
  -2000000000000000 ≤ tryD d h a b w j ∧ tryD d h a b w j ≤ 2000000000000000 := by
 obtain ⟨r, h1, h2⟩ := try_snd hw g.snd j hj
 have := way_bd hl h2
 omega
def TabT (n : Nat) (l : List REdge) (R i S : Nat) (D : Nat → Nat → Int) (H : Nat → Nat → Bool) : Prop :=
 ∀ a, a < n → RowT l a (if a < i then R + 1 else R) 0 (if a < i then S + 2 * l.length else S) (D a) (H a)
theorem TabT.fine {n : Nat} {l : List REdge} {R S : Nat} {D : Nat → Nat → Int} {H : Nat → Nat → Bool} (hl : EdgesOk n l) (h : TabT n l R 0 S D H) (hR : n ≤ R) :
  ((∃ a, a < n ∧ D a a < 0) → Sunk (Arc l) n) ∧ ((∀ a, a < n → 0 ≤ D a a) → ¬ Sunk (Arc l) n ∧ Tells (Arc l) n D H) := by
 have hr : ∀ a, a < n → RowT l a R 0 S (D a) (H a) := fun a ha => by
  have := h a ha
  simpa using this
 have hs : ∀ a, a < n → H a a = true ∧ D a a ≤ 0 := fun a ha => (hr a ha).cpl 0 a 0 (Nat.zero_le _) .start
 refine ⟨fun ⟨a, ha, hn⟩ => ?_, fun hd => ?_⟩
 ·obtain ⟨r, _, hw⟩ := (hr a ha).snd a (hs a ha).1
  exact ⟨a, r, _, ha, hn, hw⟩
 ·have ns : ¬ Sunk (Arc l) n := fun hk => by
   obtain ⟨v, r, c, h1, h2, h3, h4⟩ := Sunk.short (Arc.lt hl) hk
   have := ((hr v h1).cpl r v c (by omega) h4).2
   have := hd v h1
   omega
  have sh : ∀ a b r c, a < n → Way (Arc l) a b r c → H a b = true ∧ D a b ≤ c := fun a b r c ha hw => by
   rcases Way.short (Arc.lt hl) ha r b c hw with ⟨r', c', q1, q2, q3⟩ | ⟨v, e, c', q1, q2, q3, q4⟩
   ·have := (hr a ha).cpl r' b c' (by omega) q3
    exact ⟨this.1, by omega⟩
   ·exact absurd ⟨v, e, c', q1, q3, q4⟩ ns
  refine ⟨ns, fun a b ha hb => ?_⟩
  cases hh : H a b
  ·left
   refine ⟨rfl, fun r c hw => ?_⟩
   have := (sh a b r c ha hw).1
   rw [hh] at this; cases this
  ·right
   obtain ⟨r, _, hw⟩ := (hr a ha).snd b hh
   exact ⟨rfl, ⟨r, hw⟩, fun r' c' hw' => (sh a b r' c' ha hw').2⟩
end
end Go.Proofs.YtldlandcjegikaaGreatDoor
