/- bounds.Fits, walked. -/
import Derived.Test.YtfjpfkejajgkbaaDoorHEdge
import Derived.Test.YtfjpfkejajgkbaaDoorHG1
namespace Go.Proofs.YtfjpfkejajgkbaaDoor
open Go.RowKit
set_option linter.unusedVariables false
set_option linter.unusedSimpArgs false
def fitB (cl : List Int) (e : REdge) : Bool := decide (e.lo ≤ cl.getD e.b.toNat 0 - cl.getD e.a.toNat 0) && decide (cl.getD e.b.toNat 0 - cl.getD e.a.toNat 0 ≤ e.hi)
def fitsC (n : Int) (l : List REdge) (cl : List Int) : Int := if edgesC n l = 0 then (if (cl.length : Int) = n then okC (cl.all timeB) else 3) else edgesC n l
def fitsV (n : Int) (l : List REdge) (cl : List Int) : Bool := decide (fitsC n l cl = 0) && l.all (fitB cl)
def IdxQ (b : Bool) (w : World) (e : Ending) (w' : World) : Prop := ∃ r : Int, e = .returned (.int .i64 r) ∧ decide (0 ≤ r) = b ∧ Below w.heap.size w w'
theorem any_at {α : Type} {l : List α} {p : α → Bool} {k : Nat} {z : α} (h : l[k]? = some z) (hp : p z = true) : l.any p = true := List.any_eq_true.2 ⟨z, List.mem_of_getElem? h, hp⟩
theorem any_no {α : Type} {l : List α} {p : α → Bool} {n : Nat} (hl : l.length = n) (h : ∀ i z, i < n → l[i]? = some z → p z = false) : l.any p = false := by
  rw [List.any_eq_false]
  intro z hz
  obtain ⟨i, hi, e⟩ := List.getElem_of_mem hz
  rw [h i z (by omega) (by rw [List.getElem?_eq_getElem hi, e])]
  simp
end Go.Proofs.YtfjpfkejajgkbaaDoor
