/- A map with integers as keys, as a function: what it holds of each key, whatever its elements are. -/
import Derived.Test.YtlkekkpknmbobaaDoorBase
import Derived.Maps.Own
import Derived.Maps.OwnOps
import Derived.Maps.Views
namespace Go.Proofs.YtlkekkpknmbobaaDoor
open Go.RowKit Go.Maps
set_option linter.unusedVariables false
set_option linter.unusedSimpArgs false
/-- an element reads as itself. -/
def RV (v : Value) : Option (DataW Value × List MemPlace) := some (.held v, [])
def MapF (k : TypeId) (w : World) (b n : Nat) (f : Int → Option Value) : Prop :=
  ∃ D : DataW Value, w.ownsMap Tryd.prog k RV b n D ∧ IsMap D ∧ ∀ x : Int, (Lit.int .i64 x).wf = true → ∀ zd, D.atKey (.int .i64 x) zd = match f x with | some v => .held v | none => zd
theorem MapF.lt {k : TypeId} {w : World} {b n : Nat} {f : Int → Option Value} (h : MapF k w b n f) : b < w.heap.size := by
  obtain ⟨D, h1, _⟩ := h
  exact h1.lt
theorem MapF.made (k : TypeId) (w : World) : MapF k (w.alloc (.map #[] 0)) w.heap.size 0 (fun _ => none) :=
  ⟨.map [], World.ownsMap_made _ _ _ _, isMap_empty, fun x _ zd => rfl⟩
theorem MapF.mono {k : TypeId} {w : World} {b n m : Nat} {f : Int → Option Value} (h : MapF k w b n f) (hm : n ≤ m) : MapF k w b m f := by
  obtain ⟨D, h1, h2, h3⟩ := h
  exact ⟨D, h1.mono hm, h2, h3⟩
theorem MapF.kept {k : TypeId} {w w' : World} {b n : Nat} {f : Int → Option Value} {row : Option Nat} (h : MapF k w b n f) (hg : w.grownBy w' row) (hne : some b ≠ row) : MapF k w' b n f := by
  obtain ⟨D, h1, h2, h3⟩ := h
  exact ⟨D, h1.kept hg hne, h2, h3⟩
theorem MapF.alloc {k : TypeId} {w : World} {b n : Nat} {f : Int → Option Value} (h : MapF k w b n f) (o : Obj) : MapF k (w.alloc o) b n f := h.kept (World.grownBy_alloc w o none) (by simp)
theorem MapF.drewN {k : TypeId} {w : World} {b n : Nat} {f : Int → Option Value} (h : MapF k w b n f) (q : Nat) : MapF k (w.drewN q) b n f := h
theorem MapF.drew {k : TypeId} {w : World} {b n : Nat} {f : Int → Option Value} (h : MapF k w b n f) : MapF k w.drew b n f := h
theorem MapF.below {k : TypeId} {w w' : World} {b n B : Nat} {f : Int → Option Value} (h : MapF k w b n f) (hb : Below B w w') (hB : b < B) : MapF k w' b n f := by
  obtain ⟨D, ⟨es, clock, h1, F, hs, hD⟩, h2, h3⟩ := h
  exact ⟨D, ⟨es, clock, (hb.block b hB).trans h1, F, hs, hD⟩, h2, h3⟩
theorem MapF.far {k : TypeId} {w : World} {b n : Nat} {f : Int → Option Value} (h : MapF k w b n f) {p : Addr} (hp : b ≠ p.block) (u : Value) : MapF k (w.setCell p u) b n f := by
  obtain ⟨D, ⟨es, clock, h1, F, hs, hD⟩, h2, h3⟩ := h
  exact ⟨D, ⟨es, clock, (Below.heap_setCell w p u b hp).trans h1, F, hs, hD⟩, h2, h3⟩
theorem held_ne_all {f : Option Value} {v : Value} (h : ∀ zd : DataW Value, (DataW.held v) = match f with | some u => .held u | none => zd) : f = some v := by
  cases f with
  | none => have := h .nil; cases this
  | some u => have := h .nil; simp only [DataW.held.injEq] at this; rw [this]
theorem none_of {f : Option Value} (h : ∀ zd : DataW Value, zd = match f with | some u => .held u | none => zd) : f = none := by
  cases f with
  | none => rfl
  | some u => have := h .nil; cases this
/-- 'v, ok := m[x]'. -/
theorem MapF.look {k t e : TypeId} {w : World} {b n : Nat} {f : Int → Option Value} (h : MapF k w b n f) (hk : Tryd.prog.underlying k = some (.int .i64)) (ht : Tryd.prog.underlying t = some (.map k e)) {z : Value} (hz : (zeroValue e).run Tryd.prog w = .ok z w) {x : Int} (hx : (Lit.int .i64 x).wf = true) :
    (Instr.lookup t (.map (some b)) (.int .i64 x) true).run Tryd.prog w = .ok (.tuple #[(f x).getD z, .bool (f x).isSome]) w := by
  obtain ⟨D, ⟨es, clock, hb, F, hs, hD⟩, hm, hf⟩ := h
  have hkey : keyOf Tryd.prog k (.int .i64 x) = some (.int .i64 x) := keyOf_int_mk hk hx
  have hfx := hf x hx
  subst hD
  rcases Maps.fit_look true (int_keyed hk) ht hz hb F hkey with ⟨hrun, _, hat⟩ | ⟨e0, y, _, _, hrun, hRv, hat, _⟩
  · have : f x = none := none_of fun zd => by rw [← hfx zd]; exact (hat zd).symm
    rw [hrun, this]
    rfl
  · have hy : y.1 = .held e0.val := by
      unfold RV at hRv
      rw [← Option.some.inj hRv]
    have : f x = some e0.val := held_ne_all fun zd => by rw [← hfx zd, hat zd, hy]
    rw [hrun, this]
    rfl
/-- 'm[x] = v'. -/
theorem MapF.put {k t e : TypeId} {w : World} {b n : Nat} {f : Int → Option Value} (h : MapF k w b n f) (hk : Tryd.prog.underlying k = some (.int .i64)) (ht : Tryd.prog.underlying t = some (.map k e)) (hn : n < maxLen) {x : Int} (hx : (Lit.int .i64 x).wf = true) (v : Value) :
    ∃ w', (Instr.mapUpdate t (.map (some b)) (.int .i64 x) v).run Tryd.prog w = .ok () w' ∧ MapF k w' b (n + 1) (fun y => if y = x then some v else f y) ∧ w.grownBy w' (some b) := by
  obtain ⟨D, hown, hm, hf⟩ := h
  have hkey : keyOf Tryd.prog k (.int .i64 x) = some (.int .i64 x) := keyOf_int_mk hk hx
  obtain ⟨w', hrun, r1, r2⟩ := hown.update (int_keyed hk) ht hn hkey (show RV v = some (.held v, []) from rfl)
  refine ⟨w', hrun, ⟨_, r1, hm.put _ _, fun y hy zd => ?_⟩, r2⟩
  by_cases c : y = x
  · subst c
    rw [atKey_put_same hm ((int_keyed hk).key hkey)]
    simp
  · rw [atKey_put_other (fun e => c (by injection e)), hf y hy zd]
    simp [c]
theorem wpList_put {k t e : TypeId} {w : World} {ops : Array Oper} {rest : List Oper} {o : Oper} {a : Act} {Q : Exit → Act → World → Prop}
    (hg : o.guard = none) (m x v : Operand) (hop : o.op = Op.mapUpdate t m x v) (hk : Tryd.prog.underlying k = some (.int .i64)) (ht : Tryd.prog.underlying t = some (.map k e)) (b n : Nat) (f : Int → Option Value)
    (hm : a.eval m = .map (some b)) (hown : MapF k w b n f) (hn : n < maxLen) (key : Int) (val : Value) (hx : a.eval x = .int .i64 key) (hv : a.eval v = val) (hwf : (Lit.int .i64 key).wf = true)
    (hK : ∀ w', MapF k w' b (n + 1) (fun y => if y = key then some val else f y) → w.grownBy w' (some b) → wpList Tryd.prog ops Q rest (a.put o.dst undef) w') :
    wpList Tryd.prog ops Q (o :: rest) a w := by
  refine wpList_plain hg fun K' hK' => ?_
  obtain ⟨w', hrun, r1, r2⟩ := hown.put hk ht hn hwf val
  unfold Oper.wp
  simp [execOp, hop, hm, hx, hv, hrun, Result.andThen]
  exact hK' _ _ (hK w' r1 r2)
theorem wf_i64 {x : Int} (h : -9223372036854775808 ≤ x ∧ x ≤ 9223372036854775807) : (Lit.int .i64 x).wf = true := by
  unfold Lit.wf
  have h1 : IntKind.i64.min = -9223372036854775808 := by decide
  have h2 : IntKind.i64.max = 9223372036854775807 := by decide
  simp [h1, h2]; omega
end Go.Proofs.YtlkekkpknmbobaaDoor
