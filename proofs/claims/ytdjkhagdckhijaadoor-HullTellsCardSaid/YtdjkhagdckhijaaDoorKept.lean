/- What is kept of a world but for some blocks. -/
import Derived.Test.YtdjkhagdckhijaaDoorBlk
import Derived.Test.YtdjkhagdckhijaaDoorOwn
namespace Go.Proofs.YtdjkhagdckhijaaDoor
open Go.RowKit
set_option linter.unusedVariables false
set_option linter.unusedSimpArgs false
/-- all blocks of w but those of P are as they were. -/
structure Kept (P : Nat → Prop) (w w' : World) : Prop where
  os : w'.os = w.os
  tape : w'.tape = w.tape
  output : w'.output = w.output
  size : w.heap.size ≤ w'.heap.size
  block : ∀ k, k < w.heap.size → ¬ P k → w'.heap[k]? = w.heap[k]?
theorem Kept.refl (P : Nat → Prop) (w : World) : Kept P w w := ⟨rfl, rfl, rfl, Nat.le_refl _, fun _ _ _ => rfl⟩
theorem Kept.below {P : Nat → Prop} {w W w1 : World} (h : Kept P w W) (hb : Below W.heap.size W w1) : Kept P w w1 :=
  ⟨hb.os.trans h.os, hb.tape.trans h.tape, hb.output.trans h.output, Nat.le_trans h.size hb.size, fun k hk hp => (hb.block k (Nat.lt_of_lt_of_le hk h.size)).trans (h.block k hk hp)⟩
theorem Kept.grown {P : Nat → Prop} {w W w1 : World} {row : Option Nat} (h : Kept P w W) (hg : W.grownBy w1 row) (hr : ∀ k, row = some k → P k ∨ w.heap.size ≤ k) : Kept P w w1 :=
  ⟨hg.os.trans h.os, hg.tape.trans h.tape, hg.output.trans h.output, Nat.le_trans h.size hg.size, fun k hk hp => (hg.block k (Nat.lt_of_lt_of_le hk h.size) (fun e => by rcases hr k e.symm with h1 | h1; exact hp h1; omega)).trans (h.block k hk hp)⟩
theorem Kept.alloc {P : Nat → Prop} {w W : World} (h : Kept P w W) (o : Obj) : Kept P w (W.alloc o) := h.below ((Below.refl _ W).alloc (Nat.le_refl _) o)
theorem Kept.drewN {P : Nat → Prop} {w W : World} (h : Kept P w W) (n : Nat) : Kept P w (W.drewN n) := ⟨h.os, h.tape, h.output, h.size, h.block⟩
theorem Kept.drew {P : Nat → Prop} {w W : World} (h : Kept P w W) : Kept P w W.drew := ⟨h.os, h.tape, h.output, h.size, h.block⟩
theorem Kept.touched {P : Nat → Prop} {w W w1 : World} {g : Nat} (h : Kept P w W) (ht : Touched g W w1) (hg : P g ∨ w.heap.size ≤ g) : Kept P w w1 :=
  h.grown ht (fun k e => by cases e; exact hg)
theorem Kept.set {P : Nat → Prop} {w W : World} (h : Kept P w W) (g o : Nat) (u : Value) (hg : P g ∨ w.heap.size ≤ g) : Kept P w (W.setCell ⟨g, o, none⟩ u) :=
  h.touched ((Touched.refl g W).set o u) hg
theorem Kept.trans {P P' : Nat → Prop} {w W w1 : World} (h : Kept P w W) (h' : Kept P' W w1) (hp : ∀ k, P' k → P k ∨ w.heap.size ≤ k) : Kept P w w1 :=
  ⟨h'.os.trans h.os, h'.tape.trans h.tape, h'.output.trans h.output, Nat.le_trans h.size h'.size, fun k hk hn => (h'.block k (Nat.lt_of_lt_of_le hk h.size) (fun e => by rcases hp k e with h1 | h1; exact hn h1; omega)).trans (h.block k hk hn)⟩
theorem Kept.toBelow {P : Nat → Prop} {w w' : World} (h : Kept P w w') {B : Nat} (hB : B ≤ w.heap.size) (hp : ∀ k, P k → B ≤ k) : Below B w w' := by
  refine ⟨h.os, h.tape, h.output, h.size, fun k hk => h.block k (by omega) (fun e => by have := hp k e; omega)⟩
theorem own_slice {w : World} {B : Nat} {T : TypeId} {k n : Nat} {v : Value} {xs : List Value} (h : w.ownsRow B T k v n xs) : ∃ A c, v = .slice A n c ∧ n ≤ c ∧ c ≤ maxLen := by
  rcases h.2 with ⟨rfl, rfl⟩ | ⟨g, cap, cur, rfl, hB, hg, hn, hm, hs, ht⟩
  · exact ⟨none, 0, rfl, Nat.le_refl _, by unfold maxLen; omega⟩
  · exact ⟨_, cap, rfl, hn, hm⟩
end Go.Proofs.YtdjkhagdckhijaaDoor
