/- Rows that a call appends records to, read as slices of records. -/
import Derived.Test.YtdjkhagdckhijaaDoorRec
namespace Go.Proofs.YtdjkhagdckhijaaDoor
open Go.RowKit
set_option linter.unusedVariables false
set_option linter.unusedSimpArgs false
theorem flat_get {E : Type} (cells : E → List Value) (k : Nat) (hk : ∀ z, (cells z).length = k) (zs : List E) (i j : Nat) (z : E) (u : Value) (hz : zs[i]? = some z) (hj : (cells z)[j]? = some u) : (zs.flatMap cells)[i * k + j]? = some u := by
  induction zs generalizing i with
  | nil => simp at hz
  | cons y zs ih =>
    rw [List.flatMap_cons]
    have hjk : j < k := by rw [← hk z]; exact (List.getElem?_eq_some_iff.1 hj).1
    cases i with
    | zero =>
      simp at hz
      subst hz
      rw [Nat.zero_mul, Nat.zero_add, List.getElem?_append_left (by rw [hk]; exact hjk)]
      exact hj
    | succ i =>
      rw [List.getElem?_append_right (by rw [hk, Nat.succ_mul]; omega), hk]
      have := ih i (by simpa using hz)
      rw [show (i + 1) * k + j - k = i * k + j by rw [Nat.succ_mul]; omega]
      exact this
theorem flat_len {E : Type} (cells : E → List Value) (k : Nat) (hk : ∀ z, (cells z).length = k) (zs : List E) : (zs.flatMap cells).length = zs.length * k := by
  induction zs with
  | nil => simp
  | cons y zs ih => rw [List.flatMap_cons, List.length_append, ih, hk, List.length_cons, Nat.succ_mul]; omega
/-- a row of the call's own, read as a slice of records. -/
theorem own_recs {E : Type} (cells : E → List Value) (ok : E → Prop) (k : Nat) (hk : ∀ z, (cells z).length = k) {w : World} {B : Nat} {T : TypeId} {v : Value} {zs : List E}
    (h : w.ownsRow B T k v zs.length (zs.flatMap cells)) (hok : ∀ z ∈ zs, ok z) : ∃ A n c, v = .slice A n c ∧ IsRecs w cells ok k A n c zs := by
  have hc := fun {g : Nat} (hg : v.ownBlock = some g) => h.cells hg
  rcases h.2 with ⟨rfl, hn⟩ | ⟨g, cap, cur, rfl, hb, hg, hn, hm, hs, ht⟩
  · have : zs = [] := List.length_eq_zero_iff.1 hn
    subst this
    exact ⟨none, 0, 0, rfl, rfl, Nat.le_refl _, by unfold maxLen; omega, by simp, fun h => absurd h (by omega)⟩
  · refine ⟨some ⟨g, 0, none⟩, zs.length, cap, rfl, rfl, hn, hm, hok, fun _ => ⟨g, 0, rfl, (Array.getElem?_eq_some_iff.1 hg).1, fun i z hz j u hj => ?_⟩⟩
    have hx := hc (g := g) rfl (i * k + j) u (flat_get cells k hk zs i j z u hz hj)
    rw [show (⟨g, 0, none⟩ : Addr).add (i * k + j) = ⟨g, 0 + i * k + j, none⟩ by unfold Addr.add; split <;> simp_all] at hx
    exact hx
theorem cell_new (w : World) (cs : List Value) (T : TypeId) : ∀ j u, cs[j]? = some u → (w.alloc (.cells cs.toArray T)).cell? ((⟨w.heap.size, 0, none⟩ : Addr).add j) = some u := by
  intro j u hj
  rw [show (⟨w.heap.size, 0, none⟩ : Addr).add j = ⟨w.heap.size, j, none⟩ by unfold Addr.add; split <;> simp_all]
  have hb := Blk.new w T cs.toArray
  rw [hb.cell j]
  simpa using hj
theorem own_below {w w' : World} {B : Nat} {T : TypeId} {k n : Nat} {v : Value} {xs : List Value} (h : w.ownsRow B T k v n xs) (hb : Below w.heap.size w w') : w'.ownsRow B T k v n xs :=
  h.kept (row := none) ⟨hb.os, hb.tape, hb.output, hb.size, fun i hi _ => hb.block i hi⟩ (by cases v.ownBlock <;> simp)
theorem own_touched {w w' : World} {g B : Nat} {T : TypeId} {k n : Nat} {v : Value} {xs : List Value} (h : w.ownsRow B T k v n xs) (ht : Touched g w w') (hg : g < B) : w'.ownsRow B T k v n xs :=
  h.kept (row := some g) ht (by
    cases hv : v.ownBlock with
    | none => exact .inl rfl
    | some q => right; intro e; cases e; have := (h.lt _ hv).1; omega)
theorem own_nil (w : World) (B : Nat) (T : TypeId) (k : Nat) : w.ownsRow B T k (.slice none 0 0) 0 [] := ⟨by simp, .inl ⟨rfl, rfl⟩⟩
theorem own_snoc {E : Type} (cells : E → List Value) {k : Nat} {w : World} {B : Nat} {T : TypeId} {v : Value} {zs : List E} {z : E}
    (h : w.ownsRow B T k v (zs.length + 1) (zs.flatMap cells ++ cells z)) : w.ownsRow B T k v (zs ++ [z]).length ((zs ++ [z]).flatMap cells) := by
  simpa using h
end Go.Proofs.YtdjkhagdckhijaaDoor
