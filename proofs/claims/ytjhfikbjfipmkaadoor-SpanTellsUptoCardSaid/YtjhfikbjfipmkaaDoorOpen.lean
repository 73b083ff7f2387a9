/- What the row's proof asks of arguments: records by value, slices of integers and of records; the world below. -/
import Derived.Test.YtjhfikbjfipmkaaDoorRows
import Derived.Test.YtjhfikbjfipmkaaDoorRec
import Derived.ProofKit
import Derived.OpenShut
import Derived.ShutString
import Derived.ChangeOld
import Derived.Lib.SmallJoins
import Derived.Deep.Slices
namespace Go.Proofs.YtjhfikbjfipmkaaDoor
open Go.ChangeShapes Go.WideShapes Go.ChangeAt Go.RowKit Go.Joins Go.Deep
open Go.ChangeMaps (open_string shut_string)
set_option linter.unusedVariables false
set_option linter.unusedSimpArgs false
theorem own : ownKnob Tryd.prog.godebug = none := by kernel_rfl
theorem laidOut : laidOutB Tryd.prog = true := by kernel_rfl
theorem addr_add (b off n : Nat) : (⟨b, off, none⟩ : Addr).add n = ⟨b, off + n, none⟩ := by unfold Addr.add; split <;> simp_all
/-- the fields of a struct, cell by cell: each field of one cell. -/
theorem fields_at {H : Type} {enc : TypeId × Value → H} {P : Program} {w : World} {base : Nat} {spare : Nat → Bool} {held : Bool} {fuel : Nat} {t : TypeId} {cs : List Value} {x : DataW H × List MemPlace} {fs : Array Field}
    (ht : P.underlying t = some (.struct fs)) (h : DataW.trod enc P w base spare held fuel t cs = some x) :
    ∃ n, cs.length = P.cellsOf t ∧ ∀ (j : Nat) (f : Field), fs[j]? = some f → ∃ y, DataW.trod enc P w base spare held n f.type ((cs.drop f.offset).take (P.cellsOf f.type)) = some y := by
  obtain ⟨xs, n, _, _, hl, hlen, hf⟩ := DataW.trod_struct ht h
  refine ⟨n, hl, fun j f hj => ?_⟩
  have hjl : j < xs.length := by rw [hlen]; exact (Array.getElem?_eq_some_iff.1 hj).1
  exact ⟨xs[j], by rw [hf j f hj, List.getElem?_eq_getElem hjl]⟩
section
variable {H : Type} {enc : TypeId × Value → H} {w : World} {base : Nat} {spare : Nat → Bool} {held : Bool} {r : Reach} {b0 : Nat}
/-- a slice whose elements each read as a record. -/
theorem recs_of_trod {E : Type} {P : Program} {t e : TypeId} {k : Nat} (cells : E → List Value) (ok : E → Prop) (ht : P.underlying t = some (.slice e)) (hk : P.cellsOf e = k) (hc : ∀ z, (cells z).length = k)
    (helem : ∀ (n : Nat) (cs : List Value) (x : DataW H × List MemPlace), DataW.trod enc P w 0 (fun _ => true) true n e cs = some x → ∃ z : E, cs = cells z ∧ ok z) (hk0 : 0 < k)
    {fuel : Nat} {vs : List Value} {x : DataW H × List MemPlace} (hf : DataW.trod enc P w 0 (fun _ => true) true fuel t vs = some x) :
    ∃ A n c zs, vs = [.slice A n c] ∧ IsRecs w cells ok k A n c zs := by
  subst hk
  rcases open_slice ht hf with ⟨rfl, _⟩ | ⟨a, len, cap, m, n, D, Pl, rfl, _, hl, hm, hmm, hx, hi⟩
  · exact ⟨none, 0, 0, [], rfl, rfl, Nat.le_refl _, by unfold maxLen; omega, by simp, fun h => absurd h (by omega)⟩
  · simp only [if_true] at hmm
    have hmm' := hmm.symm
    subst hmm'
    have hz : ∀ i : Fin len, ∃ z : E, w.cells? 0 (a.add (i.val * P.cellsOf e)) (P.cellsOf e) = some (cells z) ∧ ok z := fun i => by
      obtain ⟨cs', h1, h2⟩ := hi i.val (by omega)
      obtain ⟨z, rfl, hok⟩ := helem _ _ _ h2
      exact ⟨z, h1, hok⟩
    refine ⟨some a, len, cap, (List.finRange len).map (fun i => Classical.choose (hz i)), rfl, by simp, hl, hm, ?_, ?_⟩
    · intro z hzm
      obtain ⟨i, _, rfl⟩ := List.mem_map.1 hzm
      exact (Classical.choose_spec (hz i)).2
    · intro hpos
      have cell : ∀ (i : Nat) z, ((List.finRange len).map (fun i => Classical.choose (hz i)))[i]? = some z → ∀ (j : Nat) u, (cells z)[j]? = some u → w.cell? (a.add (i * P.cellsOf e + j)) = some u := by
        intro i z hiz j u hju
        rw [List.getElem?_map] at hiz
        obtain ⟨i', hi', rfl⟩ := Option.map_eq_some_iff.1 hiz
        have hil : i < len := by
          have := (List.getElem?_eq_some_iff.1 hi').1
          simpa using this
        have hie : i'.val = i := by
          have := (List.getElem?_eq_some_iff.1 hi').2
          simp at this
          rw [← this]
        have hs := (Classical.choose_spec (hz i')).1
        obtain ⟨_, _, hat⟩ := World.cells?_some hs
        have hj : j < P.cellsOf e := by
          rw [← hc (Classical.choose (hz i'))]
          exact (List.getElem?_eq_some_iff.1 hju).1
        have h3 := hat j hj
        subst hie
        rw [Go.Deep.add_add] at h3
        rw [h3, hju]
      have hne : 0 < ((List.finRange len).map (fun i => Classical.choose (hz i))).length := by simpa using hpos
      obtain ⟨z0, hz0⟩ : ∃ z, ((List.finRange len).map (fun i => Classical.choose (hz i)))[0]? = some z := ⟨_, List.getElem?_eq_getElem hne⟩
      have hc0 : 0 < (cells z0).length := by rw [hc]; exact hk0
      have c0 := cell 0 z0 hz0 0 _ (List.getElem?_eq_getElem hc0)
      obtain ⟨b, off, spot⟩ := a
      have hspot : spot = none := by simpa [Addr.add] using World.cell?_spot c0
      subst hspot
      refine ⟨b, off, rfl, ?_, fun i z hiz j u hju => ?_⟩
      · rcases Nat.lt_or_ge b w.heap.size with hlt | hge
        · exact hlt
        · simp [Addr.add, World.cell?, Array.getElem?_eq_none hge] at c0
      · have h4 := cell i z hiz j u hju
        rw [addr_add, ← Nat.add_assoc] at h4
        exact h4
theorem open_recs {E : Type} {P : Program} {t e : TypeId} {k : Nat} (cells : E → List Value) (ok : E → Prop) (ht : P.underlying t = some (.slice e)) (hk : P.cellsOf e = k) (hc : ∀ z, (cells z).length = k)
    (helem : ∀ (n : Nat) (cs : List Value) (x : DataW H × List MemPlace), DataW.trod enc P w 0 (fun _ => true) true n e cs = some x → ∃ z : E, cs = cells z ∧ ok z) (hk0 : 0 < k)
    {v : Value} {d : DataW H} {p : List MemPlace} (hv : Value.okWide P w r b0 t v) (h : DataW.Trod enc P w 0 (fun _ => true) true t v d p) :
    ∃ A n c zs, v = .slice A n c ∧ IsRecs w cells ok k A n c zs := by
  obtain ⟨A, len, cap, rfl⟩ := okWide_slice ht hv
  obtain ⟨fuel, hf⟩ := h
  obtain ⟨A', n, c, zs, e, hi⟩ := recs_of_trod cells ok ht hk hc helem hk0 hf
  simp [Value.cells] at e
  obtain ⟨rfl, rfl, rfl⟩ := e
  exact ⟨_, _, _, zs, rfl, hi⟩
theorem open_rec {E : Type} {P : Program} {t : TypeId} {fs : Array Field} (cells : E → List Value) (ok : E → Prop) (hs : P.underlying t = some (.struct fs))
    (helem : ∀ (n : Nat) (cs : List Value) (x : DataW H × List MemPlace), DataW.trod enc P w base spare held n t cs = some x → ∃ z : E, cs = cells z ∧ ok z)
    {v : Value} {d : DataW H} {p : List MemPlace} (hv : Value.okWide P w r b0 t v) (h : DataW.Trod enc P w base spare held t v d p) : ∃ a : E, v = .agg (cells a).toArray ∧ ok a := by
  obtain ⟨cs, rfl, _⟩ := okWide_struct hs hv
  obtain ⟨fuel, hf⟩ := h
  obtain ⟨z, hz, hok⟩ := helem _ _ _ hf
  refine ⟨z, ?_, hok⟩
  rw [← hz]
  simp [Value.cells]
set_option maxRecDepth 100000 in
theorem elem_RSpan (n : Nat) (cs : List Value) (x : DataW H × List MemPlace) (h : DataW.trod enc Tryd.prog w base spare held n 23 cs = some x) : ∃ z : RSpan, cs = z.cells ∧ z.ok := by
  obtain ⟨m, hl, hf⟩ := fields_at Tryd.underlying23 h
  have hC : Tryd.prog.cellsOf 23 = 2 := by kernel_rfl
  have hIint : Tryd.prog.cellsOf 3 = 1 := by kernel_rfl
  rw [hC] at hl
  obtain ⟨c0, c1, rfl⟩ := list2 hl
  clear hC hl
  all_goals
    obtain ⟨y0, e0⟩ := hf 0 _ rfl
    simp [hIint] at e0
    obtain ⟨x0, k0, _, u0⟩ := DataW.trod_int Tryd.underlying3 e0
    simp at k0
    (try subst k0)
    obtain ⟨y1, e1⟩ := hf 1 _ rfl
    simp [hIint] at e1
    obtain ⟨x1, k1, _, u1⟩ := DataW.trod_int Tryd.underlying3 e1
    simp at k1
    (try subst k1)
    exact ⟨⟨x0, x1⟩, rfl, bounds_i64 u0, bounds_i64 u1⟩
set_option maxRecDepth 100000 in
theorem open_RSpan {v : Value} {d : DataW H} {p : List MemPlace} (hv : Value.okWide Tryd.prog w r b0 23 v) (h : DataW.Trod enc Tryd.prog w base spare held 23 v d p) : ∃ a : RSpan, v = .agg a.cells.toArray ∧ a.ok :=
  open_rec RSpan.cells RSpan.ok Tryd.underlying23 (fun n cs x h => elem_RSpan n cs x h) hv h

