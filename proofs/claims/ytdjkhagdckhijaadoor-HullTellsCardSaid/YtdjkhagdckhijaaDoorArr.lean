/- Arrays of a call's own: of numbers, of Booleans, of spans. -/
import Derived.Test.YtdjkhagdckhijaaDoorOwn
import Derived.Laws.OwnMore
namespace Go.Proofs.YtdjkhagdckhijaaDoor
open Go.RowKit
set_option linter.unusedVariables false
set_option linter.unusedSimpArgs false
def ICells (xs : List Int) : Array Value := (xs.map (Value.int .i64)).toArray
def BCells (bs : List Bool) : Array Value := (bs.map Value.bool).toArray
theorem made_i (n : Nat) : madeCells #[.int .i64 0] n = ICells (List.replicate n 0) := by
  apply Array.ext'
  rw [toList_madeCells_one]
  simp [ICells]
theorem made_b (n : Nat) : madeCells #[.bool false] n = BCells (List.replicate n false) := by
  apply Array.ext'
  rw [toList_madeCells_one]
  simp [BCells]
theorem Blk.iset {w : World} {g : Nat} {t : TypeId} {xs : List Int} (h : Blk w g t (ICells xs)) (i : Nat) (v : Int) : Blk (w.setCell ⟨g, i, none⟩ (.int .i64 v)) g t (ICells (xs.set i v)) := by
  have := h.set i (.int .i64 v)
  unfold ICells at this ⊢
  rw [List.setIfInBounds_toArray, ← List.map_set] at this
  exact this
theorem Blk.bset {w : World} {g : Nat} {t : TypeId} {xs : List Bool} (h : Blk w g t (BCells xs)) (i : Nat) (v : Bool) : Blk (w.setCell ⟨g, i, none⟩ (.bool v)) g t (BCells (xs.set i v)) := by
  have := h.set i (.bool v)
  unfold BCells at this ⊢
  rw [List.setIfInBounds_toArray, ← List.map_set] at this
  exact this
theorem Blk.iat {w : World} {g : Nat} {t : TypeId} {xs : List Int} (h : Blk w g t (ICells xs)) {i : Nat} {v : Int} (hv : xs[i]? = some v) : w.cell? ⟨g, i, none⟩ = some (.int .i64 v) := by
  rw [h.cell]
  unfold ICells
  rw [List.getElem?_toArray, List.getElem?_map, hv]
  rfl
theorem Blk.bat {w : World} {g : Nat} {t : TypeId} {xs : List Bool} (h : Blk w g t (BCells xs)) {i : Nat} {v : Bool} (hv : xs[i]? = some v) : w.cell? ⟨g, i, none⟩ = some (.bool v) := by
  rw [h.cell]
  unfold BCells
  rw [List.getElem?_toArray, List.getElem?_map, hv]
  rfl
theorem Blk.ints {w : World} {g : Nat} {t : TypeId} {xs : List Int} (h : Blk w g t (ICells xs)) {n : Nat} (hl : xs.length = n) (hm : n ≤ maxLen) (hok : ∀ x ∈ xs, i64B x) : IsInts w (some ⟨g, 0, none⟩) n n xs := by
  refine ⟨hl, Nat.le_refl _, hm, hok, fun _ => ⟨g, 0, rfl, h.lt, fun i z hz j u hj => ?_⟩⟩
  have hj0 : j = 0 := by
    have := (List.getElem?_eq_some_iff.1 hj).1
    simp [intCells] at this; omega
  subst hj0
  simp [intCells] at hj
  subst hj
  have := h.iat hz
  simpa using this
/-- a Boolean's one cell. -/
def boolCells (b : Bool) : List Value := [.bool b]
def IsBools (w : World) (A : Option Addr) (n c : Nat) (zs : List Bool) : Prop := IsRecs w boolCells (fun _ => True) 1 A n c zs
theorem Blk.bools {w : World} {g : Nat} {t : TypeId} {xs : List Bool} (h : Blk w g t (BCells xs)) {n : Nat} (hl : xs.length = n) (hm : n ≤ maxLen) : IsBools w (some ⟨g, 0, none⟩) n n xs := by
  refine ⟨hl, Nat.le_refl _, hm, fun _ _ => trivial, fun _ => ⟨g, 0, rfl, h.lt, fun i z hz j u hj => ?_⟩⟩
  have hj0 : j = 0 := by
    have := (List.getElem?_eq_some_iff.1 hj).1
    simp [boolCells] at this; omega
  subst hj0
  simp [boolCells] at hj
  subst hj
  have := h.bat hz
  simpa using this
theorem cell_newAt (w : World) (cs : List Value) (T : TypeId) (m : Nat) (h : w.heap.size = m) : ∀ j u, cs[j]? = some u → (w.alloc (.cells cs.toArray T)).cell? ((⟨m, 0, none⟩ : Addr).add j) = some u := by
  subst h; exact cell_new w cs T
theorem own_set {w : World} {B : Nat} {T : TypeId} {k n : Nat} {v : Value} {xs : List Value} (h : w.ownsRow B T k v n xs) {p : Addr} (hp : p.block < B) (u : Value) : (w.setCell p u).ownsRow B T k v n xs :=
  own_touched h ((Touched.refl p.block w).setp p (.inl rfl) u) hp
theorem own_drewN {w : World} {B : Nat} {T : TypeId} {k n : Nat} {v : Value} {xs : List Value} (h : w.ownsRow B T k v n xs) (m : Nat) : (w.drewN m).ownsRow B T k v n xs := h
theorem int_one (z : Int) : ∀ u ∈ intCells z, u.oneCell' = true := by intro u hu; simp [intCells] at hu; subst hu; rfl
/-- a row of the call's own, of numbers: where it lies. -/
theorem own_ints {w : World} {B : Nat} {T : TypeId} {v : Value} {xs : List Int} (ho : w.ownsRow B T 1 v xs.length (xs.flatMap intCells)) (h0 : 0 < xs.length) : ∃ q cap, v = .slice (some ⟨q, 0, none⟩) xs.length cap ∧ B ≤ q ∧ q < w.heap.size ∧ xs.length ≤ cap ∧ cap ≤ maxLen ∧ ∀ (i : Nat) z, xs[i]? = some z → w.cell? ⟨q, i, none⟩ = some (.int .i64 z) := by
  have hc := fun {g : Nat} (hg : v.ownBlock = some g) => ho.cells hg
  rcases ho.2 with ⟨rfl, hn⟩ | ⟨g, cap, cur, rfl, hbb, hg, hn, hm, hs, ht⟩
  · omega
  · refine ⟨g, cap, rfl, hbb, (Array.getElem?_eq_some_iff.1 hg).1, hn, hm, fun i z hz => ?_⟩
    have hx := hc (g := g) rfl (i * 1 + 0) (.int .i64 z) (flat_get intCells 1 (fun _ => rfl) xs i 0 z _ hz rfl)
    rw [show (⟨g, 0, none⟩ : Addr).add (i * 1 + 0) = ⟨g, i, none⟩ by unfold Addr.add; split <;> simp_all] at hx
    exact hx
/-- a result of two slices of numbers. -/
def TwoInts (w w' : World) (e : Ending) (xs ys : List Int) : Prop :=
  ∃ A n c B m d, e = .returned (.tuple #[.slice A n c, .slice B m d]) ∧ IsInts w' A n c xs ∧ IsInts w' B m d ys ∧ Below w.heap.size w w'
/-- a result of a slice of numbers and an error. -/
def IntsErr (w w' : World) (e : Ending) (xs : List Int) (c : Int) : Prop :=
  ∃ A n k, e = .returned (.tuple #[.slice A n k, errV c]) ∧ IsInts w' A n k xs ∧ Below w.heap.size w w'
theorem ints_nil (w : World) : IsInts w none 0 0 [] := ⟨rfl, Nat.le_refl _, by unfold maxLen; omega, by simp, fun h => absurd h (by omega)⟩
theorem bools_nil (w : World) : IsBools w none 0 0 [] := ⟨rfl, Nat.le_refl _, by unfold maxLen; omega, by simp, fun h => absurd h (by omega)⟩
theorem recs_nil {E : Type} (cells : E → List Value) (ok : E → Prop) (k : Nat) (w : World) : IsRecs w cells ok k none 0 0 [] := ⟨rfl, Nat.le_refl _, by unfold maxLen; omega, by simp, fun h => absurd h (by omega)⟩
theorem infoI : (Tryd.prog.info? 3).map (fun i => (i.zero, i.size, i.bytes)) = some (some (.int .i64 0), 1, 8) := by kernel_rfl
theorem infoB : (Tryd.prog.info? 4).map (fun i => (i.zero, i.size, i.bytes)) = some (some (.bool false), 1, 1) := by kernel_rfl
end Go.Proofs.YtdjkhagdckhijaaDoor
