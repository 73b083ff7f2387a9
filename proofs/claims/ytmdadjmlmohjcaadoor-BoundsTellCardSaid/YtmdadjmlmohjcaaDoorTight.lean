/- noonref1.Tight, walked: along all edges again and again. -/
import Derived.Test.YtmdadjmlmohjcaaDoorTightP
import Derived.Test.YtmdadjmlmohjcaaDoorEdge
import Derived.Test.YtmdadjmlmohjcaaDoorClosed
import Derived.Test.YtmdadjmlmohjcaaDoorMat2
import Derived.Test.YtmdadjmlmohjcaaDoorApp
namespace Go.Proofs.YtmdadjmlmohjcaaDoor
open Go.RowKit
set_option linter.unusedVariables false
set_option linter.unusedSimpArgs false
def rowB (N : Nat) (H : Nat → Nat → Bool) (i : Nat) : List Bool := (List.range N).map (H i)
theorem rowB_at {N : Nat} {H : Nat → Nat → Bool} {i k : Nat} (h : k < N) : (rowB N H i)[k]? = some (H i k) := by
  unfold rowB
  rw [List.getElem?_map, List.getElem?_range h]
  rfl
theorem rowB_len (N : Nat) (H : Nat → Nat → Bool) (i : Nat) : (rowB N H i).length = N := by simp [rowB]
def upH (H : Nat → Nat → Bool) (a b : Nat) : Nat → Nat → Bool := fun i j => if i = a ∧ j = b then true else H i j
theorem rowB_set {N : Nat} {H : Nat → Nat → Bool} {i k : Nat} : (rowB N H i).set k true = rowB N (upH H i k) i := by
  apply List.ext_getElem?
  intro j
  rw [List.getElem?_set]
  by_cases hj : j < N
  · rw [rowB_at (H := upH H i k) hj]
    by_cases e : k = j
    · subst e
      rw [if_pos rfl, if_pos (by rw [rowB_len]; exact hj)]
      simp [upH]
    · rw [if_neg e, rowB_at hj]
      simp [upH, show ¬ j = k from fun h => e h.symm]
  · rw [List.getElem?_eq_none (l := rowB N (upH H i k) i) (by rw [rowB_len]; omega)]
    by_cases e : k = j
    · subst e
      rw [if_pos rfl, if_neg (by rw [rowB_len]; omega)]
    · rw [if_neg e, List.getElem?_eq_none (by rw [rowB_len]; omega)]
theorem rowB_ne {N : Nat} {H : Nat → Nat → Bool} {i j k : Nat} (h : j ≠ i) : rowB N (upH H i k) j = rowB N H j := by
  unfold rowB
  apply List.map_congr_left
  intro a _
  simp [upH, h]
/-- slices of the first i rows. -/
def slV (ρ : Nat → Nat) (N i : Nat) : List Value := (List.range i).map fun j => Value.slice (some ⟨ρ j, 0, none⟩) N N
theorem slV_succ (ρ : Nat → Nat) (N i r : Nat) : slV ρ N i ++ [Value.slice (some ⟨r, 0, none⟩) N N] = slV (fun j => if j = i then r else ρ j) N (i + 1) := by
  unfold slV
  rw [List.range_succ, List.map_append]
  congr 1
  · apply List.map_congr_left
    intro j hj
    have := List.mem_range.1 hj
    simp only [if_neg (show ¬ j = i by omega)]
  · simp
theorem slV_at {ρ : Nat → Nat} {N i j : Nat} (h : j < i) : (slV ρ N i)[j]? = some (Value.slice (some ⟨ρ j, 0, none⟩) N N) := by
  unfold slV
  rw [List.getElem?_map, List.getElem?_range h]
  rfl
theorem slV_len (ρ : Nat → Nat) (N i : Nat) : (slV ρ N i).length = i := by simp [slV]
/-- rows that were made, each a block of its own. -/
structure Rows2 (w : World) (B0 i : Nat) (ρ σ : Nat → Nat) (Ti Tb : TypeId) (cs ds : Nat → Array Value) : Prop where
  r1 : ∀ j, j < i → Blk w (ρ j) Ti (cs j)
  r2 : ∀ j, j < i → Blk w (σ j) Tb (ds j)
  i1 : ∀ j k, j < i → k < i → j ≠ k → ρ j ≠ ρ k
  i2 : ∀ j k, j < i → k < i → j ≠ k → σ j ≠ σ k
  b1 : ∀ j, j < i → B0 ≤ ρ j
  b2 : ∀ j, j < i → B0 ≤ σ j
section
variable {w : World} {B0 i : Nat} {ρ σ : Nat → Nat} {Ti Tb : TypeId} {cs ds : Nat → Array Value}
theorem Rows2.nil (w : World) (B0 : Nat) (ρ σ : Nat → Nat) (Ti Tb : TypeId) (cs ds : Nat → Array Value) : Rows2 w B0 0 ρ σ Ti Tb cs ds :=
  ⟨fun j h => absurd h (by omega), fun j h => absurd h (by omega), fun j k h => absurd h (by omega), fun j k h => absurd h (by omega), fun j h => absurd h (by omega), fun j h => absurd h (by omega)⟩
/-- the world went on, and none of the rows has turned. -/
theorem Rows2.keep {w' : World} (h : Rows2 w B0 i ρ σ Ti Tb cs ds) (hk : ∀ b, b < w.heap.size → (∀ T xs, Blk w b T xs → (T = Ti ∨ T = Tb) → Blk w' b T xs)) : Rows2 w' B0 i ρ σ Ti Tb cs ds :=
  ⟨fun j hj => hk _ (h.r1 j hj).lt _ _ (h.r1 j hj) (.inl rfl), fun j hj => hk _ (h.r2 j hj).lt _ _ (h.r2 j hj) (.inr rfl), h.i1, h.i2, h.b1, h.b2⟩
/-- a row more. -/
theorem Rows2.snoc {r s : Nat} (h : Rows2 w B0 i ρ σ Ti Tb cs ds) (h1 : Blk w r Ti (cs i)) (h2 : Blk w s Tb (ds i)) (g1 : ∀ j, j < i → ρ j < r) (g2 : ∀ j, j < i → σ j < s) (e1 : B0 ≤ r) (e2 : B0 ≤ s) :
    Rows2 w B0 (i + 1) (fun j => if j = i then r else ρ j) (fun j => if j = i then s else σ j) Ti Tb cs ds := by
  refine ⟨fun j hj => ?_, fun j hj => ?_, fun j k hj hk hne => ?_, fun j k hj hk hne => ?_, fun j hj => ?_, fun j hj => ?_⟩
  · by_cases e : j = i
    · subst e; simp only [if_true]; exact h1
    · simp only [if_neg e]; exact h.r1 j (by omega)
  · by_cases e : j = i
    · subst e; simp only [if_true]; exact h2
    · simp only [if_neg e]; exact h.r2 j (by omega)
  · by_cases e : j = i <;> by_cases f : k = i
    · omega
    · simp only [if_pos e, if_neg f]; have := g1 k (by omega); omega
    · simp only [if_neg e, if_pos f]; have := g1 j (by omega); omega
    · simp only [if_neg e, if_neg f]; exact h.i1 j k (by omega) (by omega) hne
  · by_cases e : j = i <;> by_cases f : k = i
    · omega
    · simp only [if_pos e, if_neg f]; have := g2 k (by omega); omega
    · simp only [if_neg e, if_pos f]; have := g2 j (by omega); omega
    · simp only [if_neg e, if_neg f]; exact h.i2 j k (by omega) (by omega) hne
  · by_cases e : j = i
    · simp only [if_pos e]; exact e1
    · simp only [if_neg e]; exact h.b1 j (by omega)
  · by_cases e : j = i
    · simp only [if_pos e]; exact e2
    · simp only [if_neg e]; exact h.b2 j (by omega)
end
/-- the table: rows of numbers and of Booleans behind two slices. -/
structure TabAt (w : World) (B0 g1 g2 N : Nat) (cur1 cur2 : Array Value) (ρ σ : Nat → Nat) (Tsi Tsb Ti Tb : TypeId) (D : Nat → Nat → Int) (H : Nat → Nat → Bool) : Prop where
  o1 : Blk w g1 Tsi cur1
  o2 : Blk w g2 Tsb cur2
  rows : Rows2 w B0 N ρ σ Ti Tb (fun j => ICells (rowOf N D j)) (fun j => BCells (rowB N H j))
  c1 : ∀ j, j < N → cur1[j]? = some (Value.slice (some ⟨ρ j, 0, none⟩) N N)
  c2 : ∀ j, j < N → cur2[j]? = some (Value.slice (some ⟨σ j, 0, none⟩) N N)
section
variable {w : World} {B0 g1 g2 N : Nat} {cur1 cur2 : Array Value} {ρ σ : Nat → Nat} {Tsi Tsb Ti Tb : TypeId} {D : Nat → Nat → Int} {H : Nat → Nat → Bool}
theorem TabAt.x1 (h : TabAt w B0 g1 g2 N cur1 cur2 ρ σ Tsi Tsb Ti Tb D H) {j : Nat} (hj : j < N) : w.cell? ⟨g1, j, none⟩ = some (Value.slice (some ⟨ρ j, 0, none⟩) N N) := (h.o1.cell j).trans (h.c1 j hj)
theorem TabAt.x2 (h : TabAt w B0 g1 g2 N cur1 cur2 ρ σ Tsi Tsb Ti Tb D H) {j : Nat} (hj : j < N) : w.cell? ⟨g2, j, none⟩ = some (Value.slice (some ⟨σ j, 0, none⟩) N N) := (h.o2.cell j).trans (h.c2 j hj)
theorem TabAt.d (h : TabAt w B0 g1 g2 N cur1 cur2 ρ σ Tsi Tsb Ti Tb D H) {j k : Nat} (hj : j < N) (hk : k < N) : w.cell? ⟨ρ j, k, none⟩ = some (.int .i64 (D j k)) := (h.rows.r1 j hj).iat (rowOf_at hk)
theorem TabAt.h (h : TabAt w B0 g1 g2 N cur1 cur2 ρ σ Tsi Tsb Ti Tb D H) {j k : Nat} (hj : j < N) (hk : k < N) : w.cell? ⟨σ j, k, none⟩ = some (.bool (H j k)) := (h.rows.r2 j hj).bat (rowB_at hk)
theorem TabAt.drewN (h : TabAt w B0 g1 g2 N cur1 cur2 ρ σ Tsi Tsb Ti Tb D H) (m : Nat) : TabAt (w.drewN m) B0 g1 g2 N cur1 cur2 ρ σ Tsi Tsb Ti Tb D H := ⟨h.o1, h.o2, ⟨h.rows.r1, h.rows.r2, h.rows.i1, h.rows.i2, h.rows.b1, h.rows.b2⟩, h.c1, h.c2⟩
theorem TabAt.setD (h : TabAt w B0 g1 g2 N cur1 cur2 ρ σ Tsi Tsb Ti Tb D H) (n1 : Tsi ≠ Ti) (n2 : Tsb ≠ Ti) (n3 : Tb ≠ Ti) {i : Nat} (hi : i < N) (k : Nat) (v : Int) :
    TabAt (w.setCell ⟨ρ i, k, none⟩ (.int .i64 v)) B0 g1 g2 N cur1 cur2 ρ σ Tsi Tsb Ti Tb (up2 D i k v) H :=
  ⟨h.o1.far (h.o1.type_ne (h.rows.r1 i hi) n1) _, h.o2.far (h.o2.type_ne (h.rows.r1 i hi) n2) _,
    ⟨fun j hj => by
      by_cases e : j = i
      · subst e
        have := (h.rows.r1 j hj).iset k v
        rw [rowOf_set] at this
        exact this
      · rw [rowOf_ne _ e]
        exact (h.rows.r1 j hj).far (h.rows.i1 j i hj hi e) _, fun j hj => (h.rows.r2 j hj).far ((h.rows.r2 j hj).type_ne (h.rows.r1 i hi) n3) _, h.rows.i1, h.rows.i2, h.rows.b1, h.rows.b2⟩, h.c1, h.c2⟩
theorem TabAt.setH (h : TabAt w B0 g1 g2 N cur1 cur2 ρ σ Tsi Tsb Ti Tb D H) (n1 : Tsi ≠ Tb) (n2 : Tsb ≠ Tb) (n3 : Ti ≠ Tb) {i : Nat} (hi : i < N) (k : Nat) :
    TabAt (w.setCell ⟨σ i, k, none⟩ (.bool true)) B0 g1 g2 N cur1 cur2 ρ σ Tsi Tsb Ti Tb D (upH H i k) :=
  ⟨h.o1.far (h.o1.type_ne (h.rows.r2 i hi) n1) _, h.o2.far (h.o2.type_ne (h.rows.r2 i hi) n2) _,
    ⟨fun j hj => (h.rows.r1 j hj).far ((h.rows.r1 j hj).type_ne (h.rows.r2 i hi) n3) _, fun j hj => by
      by_cases e : j = i
      · subst e
        have := (h.rows.r2 j hj).bset k true
        rw [rowB_set] at this
        exact this
      · rw [rowB_ne e]
        exact (h.rows.r2 j hj).far (h.rows.i2 j i hj hi e) _, h.rows.i1, h.rows.i2, h.rows.b1, h.rows.b2⟩, h.c1, h.c2⟩
theorem TabAt.congr (h : TabAt w B0 g1 g2 N cur1 cur2 ρ σ Tsi Tsb Ti Tb D H) {E : Nat → Nat → Int} {G : Nat → Nat → Bool} (e1 : D = E) (e2 : H = G) : TabAt w B0 g1 g2 N cur1 cur2 ρ σ Tsi Tsb Ti Tb E G := by
  subst e1; subst e2; exact h
theorem TabAt.mats (h : TabAt w B0 g1 g2 N cur1 cur2 ρ σ Tsi Tsb Ti Tb D H) {c d : Nat} (hc : N ≤ c) (hd : N ≤ d) (hc' : c ≤ maxLen) (hd' : d ≤ maxLen) :
    IsMat w intCells 1 (some ⟨g1, 0, none⟩) N c N D ∧ IsMat w boolCells 1 (some ⟨g2, 0, none⟩) N d N H := by
  have hN : N ≤ maxLen := by omega
  refine ⟨⟨rfl, hc, hc', g1, rfl, h.o1.lt, fun i hi => ⟨ρ i, N, h.x1 hi, Nat.le_refl _, hN, (h.rows.r1 i hi).lt, fun j hj q u hu => ?_⟩⟩, ⟨rfl, hd, hd', g2, rfl, h.o2.lt, fun i hi => ⟨σ i, N, h.x2 hi, Nat.le_refl _, hN, (h.rows.r2 i hi).lt, fun j hj q u hu => ?_⟩⟩⟩
  · have hq : q = 0 := by have := (List.getElem?_eq_some_iff.1 hu).1; simp [intCells] at this; omega
    subst hq
    simp [intCells] at hu
    subst hu
    have := h.d hi hj
    simpa using this
  · have hq : q = 0 := by have := (List.getElem?_eq_some_iff.1 hu).1; simp [boolCells] at this; omega
    subst hq
    simp [boolCells] at hu
    subst hu
    have := h.h hi hj
    simpa using this
end
/-- one row anew. -/
def rowUp {α : Type} (D : Nat → Nat → α) (i : Nat) (f : Nat → α) : Nat → Nat → α := fun a => if a = i then f else D a
theorem up2_row (D : Nat → Nat → Int) (i k : Nat) (v : Int) : up2 D i k v = rowUp D i (up1 (D i) k v) := by
  funext a b
  unfold up2 rowUp up1
  by_cases e : a = i
  · subst e; simp
  · simp [e]
theorem upH_row (H : Nat → Nat → Bool) (i k : Nat) : upH H i k = rowUp H i (upB (H i) k) := by
  funext a b
  unfold upH rowUp upB
  by_cases e : a = i
  · subst e; simp
  · simp [e]
theorem rowUp_same {α : Type} (D : Nat → Nat → α) (i : Nat) : rowUp D i (D i) = D := by
  funext a
  unfold rowUp
  by_cases e : a = i
  · subst e; simp
  · simp [e]
theorem rowUp_at {α : Type} (D : Nat → Nat → α) (i : Nat) (f : Nat → α) : rowUp D i f i = f := by simp [rowUp]
theorem rowUp_rowUp {α : Type} (D : Nat → Nat → α) (i : Nat) (f g : Nat → α) : rowUp (rowUp D i f) i g = rowUp D i g := by
  funext a
  unfold rowUp
  by_cases e : a = i
  · simp [e]
  · simp [e]
/-- round R, row i, k edges of it told. -/
def TabK (N : Nat) (l : List REdge) (R i k S : Nat) (D : Nat → Nat → Int) (H : Nat → Nat → Bool) : Prop :=
  ∀ a, a < N → if a = i then RowT l a R k (S + 2 * k) (D a) (H a) else RowT l a (if a < i then R + 1 else R) 0 (if a < i then S + 2 * l.length else S) (D a) (H a)
theorem TabT.row {N : Nat} {l : List REdge} {R i S : Nat} {D : Nat → Nat → Int} {H : Nat → Nat → Bool} (h : TabT N l R i S D H) : TabK N l R i 0 S D H := by
  intro a ha
  have := h a ha
  by_cases e : a = i
  · subst e
    rw [if_pos rfl]
    rw [if_neg (by omega), if_neg (by omega)] at this
    exact this
  · rw [if_neg e]; exact this
theorem TabK.edge {N : Nat} {l : List REdge} {R i k S : Nat} {D : Nat → Nat → Int} {H : Nat → Nat → Bool} (hl : EdgesOk N l) (h : TabK N l R i k S D H) (hi : i < N) {e : REdge} (he : l[k]? = some e) {a b : Nat} (ha : e.a = a) (hb : e.b = b) :
    TabK N l R i (k + 1) S (rowUp D i (edD (D i) (H i) a b e.lo e.hi)) (rowUp H i (edH (D i) (H i) a b e.lo e.hi)) := by
  intro c hc
  have := h c hc
  by_cases f : c = i
  · subst f
    rw [if_pos rfl] at this ⊢
    rw [rowUp_at, rowUp_at, show S + 2 * (k + 1) = S + 2 * k + 2 by omega]
    exact this.step hl he ha hb
  · rw [if_neg f] at this ⊢
    unfold rowUp
    rw [if_neg f, if_neg f]
    exact this
theorem TabK.done {N : Nat} {l : List REdge} {R i S : Nat} {D : Nat → Nat → Int} {H : Nat → Nat → Bool} (h : TabK N l R i l.length S D H) : TabT N l R (i + 1) S D H := by
  intro a ha
  have := h a ha
  by_cases e : a = i
  · subst e
    rw [if_pos rfl] at this
    rw [if_pos (by omega), if_pos (by omega)]
    exact this.next
  · rw [if_neg e] at this
    by_cases f : a < i
    · rw [if_pos f, if_pos f] at this
      rw [if_pos (by omega), if_pos (by omega)]
      exact this
    · rw [if_neg f, if_neg f] at this
      rw [if_neg (by omega), if_neg (by omega)]
      exact this
theorem TabT.again {N : Nat} {l : List REdge} {R S : Nat} {D : Nat → Nat → Int} {H : Nat → Nat → Bool} (h : TabT N l R N S D H) : TabT N l (R + 1) 0 (S + 2 * l.length) D H := by
  intro a ha
  have := h a ha
  rw [if_pos ha, if_pos ha] at this
  rw [if_neg (by omega), if_neg (by omega)]
  exact this
theorem TabK.at_ {N : Nat} {l : List REdge} {R i k S : Nat} {D : Nat → Nat → Int} {H : Nat → Nat → Bool} (h : TabK N l R i k S D H) (hi : i < N) : RowT l i R k (S + 2 * k) (D i) (H i) := by
  have := h i hi
  rw [if_pos rfl] at this
  exact this
def D00 (_ _ : Nat) : Int := 0
def H00 (a b : Nat) : Bool := decide (b = a)
theorem TabT.init (N : Nat) (l : List REdge) : TabT N l 0 0 0 D00 H00 := by
  intro a ha
  rw [if_neg (by omega), if_neg (by omega)]
  exact RowT.init l a _ _ rfl (fun b => by simp [H00])
end Go.Proofs.YtmdadjmlmohjcaaDoor
