/- Slices of slices of a call's own, rows wherever they lie; slices of spans of a call's own. -/
import Derived.Test.YtldlandcjegikaaGreatDoorHK1
import Derived.Deep.DeepCutAuto
namespace Go.Proofs.YtldlandcjegikaaGreatDoor
open Go.RowKit
set_option linter.unusedVariables false
set_option linter.unusedSimpArgs false
def SCells (zs : List RSpan) : Array Value := (zs.flatMap RSpan.cells).toArray
theorem span_set (zs : List RSpan) (i : Nat) (a b : Int) : ((zs.flatMap RSpan.cells).set (i * 2) (.int .i64 a)).set (i * 2 + 1) (.int .i64 b) = (zs.set i ⟨a, b⟩).flatMap RSpan.cells := by
 induction zs generalizing i with
 | nil => rfl
 | cons z zs ih =>
  cases i with
  | zero => rfl
  | succ i =>
   have := ih i
   rw [show (i + 1) * 2 = i * 2 + 2 by omega, List.set_cons_succ, List.flatMap_cons, List.flatMap_cons, ← this]
   rfl
theorem Blk.sset {w : World} {g : Nat} {t : TypeId} {zs : List RSpan} (h : Blk w g t (SCells zs)) (i : Nat) (a b : Int) :
  Blk ((w.setCell ⟨g, i * 2, none⟩ (.int .i64 a)).setCell ⟨g, i * 2 + 1, none⟩ (.int .i64 b)) g t (SCells (zs.set i ⟨a, b⟩)) := by
 have := (h.set (i * 2) (.int .i64 a)).set (i * 2 + 1) (.int .i64 b)
 unfold SCells at this ⊢
 rw [List.setIfInBounds_toArray, List.setIfInBounds_toArray, span_set] at this
 exact this
theorem Blk.sat0 {w : World} {g : Nat} {t : TypeId} {zs : List RSpan} (h : Blk w g t (SCells zs)) {i : Nat} {z : RSpan} (hz : zs[i]? = some z) : w.cell? ⟨g, i * 2, none⟩ = some (.int .i64 z.lo) := by
 have := flat_get RSpan.cells 2 (fun _ => rfl) zs i 0 z (.int .i64 z.lo) hz rfl
 rw [h.cell]
 unfold SCells
 rw [List.getElem?_toArray]
 exact this
theorem Blk.sat1 {w : World} {g : Nat} {t : TypeId} {zs : List RSpan} (h : Blk w g t (SCells zs)) {i : Nat} {z : RSpan} (hz : zs[i]? = some z) : w.cell? ⟨g, i * 2 + 1, none⟩ = some (.int .i64 z.hi) := by
 have := flat_get RSpan.cells 2 (fun _ => rfl) zs i 1 z (.int .i64 z.hi) hz rfl
 rw [h.cell]
 unfold SCells
 rw [List.getElem?_toArray]
 exact this
theorem Blk.spans {w : World} {g : Nat} {t : TypeId} {zs : List RSpan} (h : Blk w g t (SCells zs)) {n : Nat} (hl : zs.length = n) (hm : n ≤ maxLen) (hok : ∀ z ∈ zs, z.ok) : IsRecs w RSpan.cells RSpan.ok 2 (some ⟨g, 0, none⟩) n n zs := by
 refine ⟨hl, Nat.le_refl _, hm, hok, fun _ => ⟨g, 0, rfl, h.lt, fun i z hz j u hj => ?_⟩⟩
 have hj2 : j < 2 := by have := (List.getElem?_eq_some_iff.1 hj).1; simp [RSpan.cells] at this; omega
 have hc : j = 0 ∨ j = 1 := by omega
 rcases hc with rfl | rfl
 ·simp [RSpan.cells] at hj
  subst hj
  have := h.sat0 hz
  simpa using this
 ·simp [RSpan.cells] at hj
  subst hj
  have := h.sat1 hz
  simpa using this
theorem made_sl2 (n : Nat) : (madeCells #[.int .i64 0, .int .i64 0] (n * 2)).toList = (List.replicate n (⟨0, 0⟩ : RSpan)).flatMap RSpan.cells := by
 induction n with
 | zero => simp [madeCells]
 | succ n ih =>
  rw [List.replicate_succ', List.flatMap_append, ← ih]
  unfold madeCells
  rw [show (n + 1) * 2 = n * 2 + 1 + 1 by omega, Array.range_succ, Array.range_succ]
  have h1 : n * 2 % 2 = 0 := by omega
  have h2 : (n * 2 + 1) % 2 = 1 := by omega
  simp [RSpan.cells, h1, h2]
theorem made_s (n : Nat) : madeCells #[.int .i64 0, .int .i64 0] (n * 2) = SCells (List.replicate n ⟨0, 0⟩) := by
 apply Array.ext'
 rw [made_sl2]
 simp [SCells]
theorem infoSpan : (Tryz.prog.info? 34).map (fun i => (i.zero, i.size, i.bytes)) = some (some (.agg #[.int .i64 0, .int .i64 0]), 2, 16) := by kernel_rfl
theorem make_spans (N : Nat) (h : N ≤ 1000) (w : World) : (Instr.makeSlice 125 (.int .i64 (N : Int)) (.int .i64 (N : Int))).run Tryz.prog w = .ok (.slice (some ⟨w.heap.size, 0, none⟩) N N) (w.alloc (.cells (SCells (List.replicate N ⟨0, 0⟩)) 34)) := by
 obtain ⟨i0, hi, hz0, hz1, hz2⟩ := info_parts infoSpan
 have := run_make (P := Tryz.prog) w 125 34 i0 _ Tryz.underlying125 hi hz0 .i64 .i64 N N (by omega) (by omega) (by rw [hz2]; omega) (by omega)
 rw [hz1] at this
 simp only [Int.toNat_natCast] at this
 rw [← made_s]
 exact this
def IsMat {E : Type} (w : World) (cells : E → List Value) (k : Nat) (A : Option Addr) (n c N : Nat) (F : Nat → Nat → E) : Prop :=
 n = N ∧ N ≤ c ∧ c ≤ maxLen ∧ ∃ b, A = some ⟨b, 0, none⟩ ∧ b < w.heap.size ∧ ∀ i, i < N → ∃ r d, w.cell? ⟨b, i, none⟩ = some (.slice (some ⟨r, 0, none⟩) N d) ∧ N ≤ d ∧ d ≤ maxLen ∧ r < w.heap.size ∧
  ∀ j, j < N → ∀ (q : Nat) u, (cells (F i j))[q]? = some u → w.cell? ⟨r, j * k + q, none⟩ = some u
theorem IsMat.below {E : Type} {w w' : World} {cells : E → List Value} {k : Nat} {A : Option Addr} {n c N : Nat} {F : Nat → Nat → E} (h : IsMat w cells k A n c N F) (hb : Below w.heap.size w w') : IsMat w' cells k A n c N F := by
 obtain ⟨h1, h2, h3, b, h4, h5, h6⟩ := h
 have hs := hb.size
 refine ⟨h1, h2, h3, b, h4, by omega, fun i hi => ?_⟩
 obtain ⟨r, d, g1, g2, g3, g4, g5⟩ := h6 i hi
 exact ⟨r, d, ((bcell hb).1 b i h5).trans g1, g2, g3, by omega, fun j hj q u hu => ((bcell hb).1 r _ g4).trans (g5 j hj q u hu)⟩
theorem IsMat.at_ {E : Type} {w : World} {cells : E → List Value} {k : Nat} {A : Option Addr} {n c N : Nat} {F : Nat → Nat → E} (h : IsMat w cells k A n c N F) {i j : Nat} (hi : i < N) (hj : j < N) :
  ∃ b r d, A = some ⟨b, 0, none⟩ ∧ n = N ∧ w.cell? ⟨b, i, none⟩ = some (.slice (some ⟨r, 0, none⟩) N d) ∧ N ≤ d ∧ d ≤ maxLen ∧ b < w.heap.size ∧ r < w.heap.size ∧ ∀ (q : Nat) u, (cells (F i j))[q]? = some u → w.cell? ⟨r, j * k + q, none⟩ = some u := by
 obtain ⟨h1, h2, h3, b, h4, h5, h6⟩ := h
 obtain ⟨r, d, g1, g2, g3, g4, g5⟩ := h6 i hi
 exact ⟨b, r, d, h4, h1, g1, g2, g3, h5, g4, g5 j hj⟩
structure RowsAt (w : World) (B0 g N i : Nat) (ρ : Nat → Nat) (Ts Ti : TypeId) (cs : Nat → Array Value) : Prop where
 outer : Blk w g Ts (((List.range N).map fun j => if j < i then Value.slice (some ⟨ρ j, 0, none⟩) N N else .slice none 0 0).toArray)
 rows : ∀ j, j < i → Blk w (ρ j) Ti (cs j)
 old : ∀ j, j < i → B0 ≤ ρ j
 base : B0 ≤ g
 ne : ∀ j k, j < i → k < i → j ≠ k → ρ j ≠ ρ k
theorem Blk.type_ne {w : World} {g h : Nat} {T U : TypeId} {cs ds : Array Value} (a : Blk w g T cs) (b : Blk w h U ds) (n : T ≠ U) : g ≠ h := by
 rintro rfl
 unfold Blk at a b
 rw [a] at b
 injection b with b
 injection b with b1 b2
 exact n b2
section
variable {w : World} {B0 g N i : Nat} {ρ : Nat → Nat} {Ts Ti : TypeId} {cs : Nat → Array Value}
theorem RowsAt.csl (h : RowsAt w B0 g N i ρ Ts Ti cs) {j : Nat} (hj : j < i) (hN : i ≤ N) : w.cell? ⟨g, j, none⟩ = some (.slice (some ⟨ρ j, 0, none⟩) N N) := by
 rw [h.outer.cell, List.getElem?_toArray, List.getElem?_map, List.getElem?_range (by omega)]
 simp [hj]
theorem RowsAt.cnil (h : RowsAt w B0 g N i ρ Ts Ti cs) (hN : i < N) : w.cell? ⟨g, i, none⟩ = some (.slice none 0 0) := by
 rw [h.outer.cell, List.getElem?_toArray, List.getElem?_map, List.getElem?_range hN]
 simp
theorem RowsAt.drewN (h : RowsAt w B0 g N i ρ Ts Ti cs) (m : Nat) : RowsAt (w.drewN m) B0 g N i ρ Ts Ti cs := ⟨h.outer, h.rows, h.old, h.base, h.ne⟩
theorem RowsAt.far (h : RowsAt w B0 g N i ρ Ts Ti cs) {p : Addr} (hg : g ≠ p.block) (hr : ∀ j, j < i → ρ j ≠ p.block) (u : Value) : RowsAt (w.setCell p u) B0 g N i ρ Ts Ti cs :=
 ⟨h.outer.far hg u, fun j hj => (h.rows j hj).far (hr j hj) u, h.old, h.base, h.ne⟩
theorem RowsAt.below {w' : World} (h : RowsAt w B0 g N i ρ Ts Ti cs) (hb : Below w.heap.size w w') : RowsAt w' B0 g N i ρ Ts Ti cs :=
 ⟨h.outer.below hb h.outer.lt, fun j hj => (h.rows j hj).below hb (h.rows j hj).lt, h.old, h.base, h.ne⟩
theorem RowsAt.grow {W : World} {cs' : Nat → Array Value} {r : Nat} (h : RowsAt w B0 g N i ρ Ts Ti cs)
  (hW : Blk W g Ts ((((List.range N).map fun j => if j < i then Value.slice (some ⟨ρ j, 0, none⟩) N N else .slice none 0 0).toArray).setIfInBounds i (.slice (some ⟨r, 0, none⟩) N N)))
  (hr : Blk W r Ti (cs' i)) (hB : B0 ≤ r) (hold : ∀ j, j < i → Blk W (ρ j) Ti (cs' j)) (hne : ∀ j, j < i → ρ j ≠ r) :
  RowsAt W B0 g N (i + 1) (fun j => if j = i then r else ρ j) Ts Ti cs' := by
 refine ⟨?_, fun j hj => ?_, fun j hj => ?_, h.base, fun j k hj hk hjk => ?_⟩
 ·refine hW.conv ?_
  rw [List.setIfInBounds_toArray]
  congr 1
  apply List.ext_getElem?
  intro j
  rw [List.getElem?_set]
  by_cases hj : j < N
  ·rw [List.getElem?_map, List.getElem?_map, List.getElem?_range hj]
   by_cases e : i = j
   ·subst e
    rw [if_pos rfl, if_pos (by simpa using hj)]
    simp
   ·rw [if_neg e]
    simp only [Option.map_some]
    by_cases f : j < i
    ·rw [if_pos f, if_pos (by omega), if_neg (by omega)]
    ·rw [if_neg f, if_neg (by omega)]
  ·by_cases e : i = j
   ·subst e
    rw [if_pos rfl, if_neg (by simp; omega), List.getElem?_eq_none (by simp; omega)]
   ·rw [if_neg e, List.getElem?_eq_none (by simp; omega), List.getElem?_eq_none (by simp; omega)]
 ·by_cases e : j = i
  ·subst e
   simp only [if_true]
   exact hr
  ·simp only [if_neg e]
   exact hold j (by omega)
 ·by_cases e : j = i
  ·simp only [if_pos e]; exact hB
  ·simp only [if_neg e]; exact h.old j (by omega)
 ·by_cases e : j = i <;> by_cases f : k = i
  ·omega
  ·simp only [if_pos e, if_neg f]; exact fun q => hne k (by omega) q.symm
  ·simp only [if_neg e, if_pos f]; exact hne j (by omega)
  ·simp only [if_neg e, if_neg f]; exact h.ne j k (by omega) (by omega) hjk
theorem RowsAt.lt (h : RowsAt w B0 g N i ρ Ts Ti cs) {j : Nat} (hj : j < i) : ρ j < w.heap.size := (h.rows j hj).lt
theorem RowsAt.upd {w' : World} {cs' : Nat → Array Value} {j : Nat} (h : RowsAt w B0 g N i ρ Ts Ti cs) (hj : j < i) (hT : Ts ≠ Ti) (hf : ∀ b, b ≠ ρ j → w'.heap[b]? = w.heap[b]?) (hb : Blk w' (ρ j) Ti (cs' j)) (he : ∀ k, k < i → k ≠ j → cs' k = cs k) :
  RowsAt w' B0 g N i ρ Ts Ti cs' :=
 ⟨(hf g (h.outer.type_ne (h.rows j hj) hT)).trans h.outer, fun k hk => by
  by_cases e : k = j
  ·subst e; exact hb
  ·rw [he k hk e]; exact (hf _ (h.ne k j hk hj e)).trans (h.rows k hk), h.old, h.base, h.ne⟩
theorem RowsAt.span {cs' : Nat → Array Value} {j k : Nat} {zs : List RSpan} (h : RowsAt w B0 g N i ρ Ts Ti cs) (hj : j < i) (hT : Ts ≠ Ti) (hz : Blk w (ρ j) Ti (SCells zs)) (a b : Int) (e1 : cs' j = SCells (zs.set k ⟨a, b⟩)) (he : ∀ m, m < i → m ≠ j → cs' m = cs m) :
  RowsAt ((w.setCell ⟨ρ j, k * 2, none⟩ (.int .i64 a)).setCell ⟨ρ j, k * 2 + 1, none⟩ (.int .i64 b)) B0 g N i ρ Ts Ti cs' :=
 h.upd hj hT (fun q hq => (Below.heap_setCell _ _ _ q (by simpa using hq)).trans (Below.heap_setCell _ _ _ q (by simpa using hq))) (by rw [e1]; exact hz.sset k a b) he
theorem RowsAt.bool {cs' : Nat → Array Value} {j k : Nat} {zs : List Bool} (h : RowsAt w B0 g N i ρ Ts Ti cs) (hj : j < i) (hT : Ts ≠ Ti) (hz : Blk w (ρ j) Ti (BCells zs)) (b : Bool) (e1 : cs' j = BCells (zs.set k b)) (he : ∀ m, m < i → m ≠ j → cs' m = cs m) :
  RowsAt (w.setCell ⟨ρ j, k, none⟩ (.bool b)) B0 g N i ρ Ts Ti cs' :=
 h.upd hj hT (fun q hq => Below.heap_setCell _ _ _ q (by simpa using hq)) (by rw [e1]; exact hz.bset k b) he
theorem RowsAt.congr {cs' : Nat → Array Value} (h : RowsAt w B0 g N i ρ Ts Ti cs) (he : ∀ k, k < i → cs' k = cs k) : RowsAt w B0 g N i ρ Ts Ti cs' :=
 ⟨h.outer, fun k hk => by rw [he k hk]; exact h.rows k hk, h.old, h.base, h.ne⟩
theorem RowsAt.init (h : Blk w g Ts ((List.range N).map fun _ => Value.slice none 0 0).toArray) (hB : B0 ≤ g) : RowsAt w B0 g N 0 ρ Ts Ti cs :=
 ⟨by simpa using h, fun j hj => absurd hj (by omega), fun j hj => absurd hj (by omega), hB, fun j _ hj => absurd hj (by omega)⟩
theorem Blk.newAt2 (W : World) (o : Obj) (t : TypeId) (cs : Array Value) : Blk ((W.alloc o).alloc (.cells cs t)) (W.heap.size + 1) t cs := by
 have := Blk.new (W.alloc o) t cs
 simpa using this
end
end Go.Proofs.YtldlandcjegikaaGreatDoor
