/- What a tied row's proof asks of the listed table civil.before: its thirteen cells; worlds that meet the conditions. -/
import Derived.Test.YtfjpfkejajgkbaaDoorHDoor
import Derived.Test.YtfjpfkejajgkbaaDoorHCivil
import Derived.LaidMore
namespace Go.Proofs.YtfjpfkejajgkbaaDoor
open Go.ChangeShapes Go.WideShapes Go.ChangeAt Go.RowKit
set_option linter.unusedVariables false
set_option linter.unusedSimpArgs false
theorem tab_g : Tryd.prog.globalNamed "noonmark/civil.before" = some 0 := by kernel_rfl
theorem tab_t : (Tryd.prog.globals[0]?).map (·.type) = some 166 := by kernel_rfl
theorem tab_c : Tryd.prog.cellsOf 3 = 1 := by kernel_rfl
def tabL : List Int := [0, 31, 59, 90, 120, 151, 181, 212, 243, 273, 304, 334, 365]
def tabCells : Array Value := #[.int .i64 0, .int .i64 31, .int .i64 59, .int .i64 90, .int .i64 120, .int .i64 151, .int .i64 181, .int .i64 212, .int .i64 243, .int .i64 273, .int .i64 304, .int .i64 334, .int .i64 365]
theorem tabL_before (k : Nat) (h : k ≤ 12) : tabL.getD k 0 = beforeD ((k : Int) + 1) := by
  have hc : k = 0 ∨ k = 1 ∨ k = 2 ∨ k = 3 ∨ k = 4 ∨ k = 5 ∨ k = 6 ∨ k = 7 ∨ k = 8 ∨ k = 9 ∨ k = 10 ∨ k = 11 ∨ k = 12 := by omega
  rcases hc with rfl | rfl | rfl | rfl | rfl | rfl | rfl | rfl | rfl | rfl | rfl | rfl | rfl <;> decide
def laidListT : List (String × DataW Unit) := [("noonmark/civil.before", Rows.laid_noonmark_civil_before)]
theorem tab_of_met {W : World} (h : laidMet Tryd.prog laidListT W) : TabAt W := by
  intro r hr
  rw [← tabL_before r hr]
  obtain ⟨ps, ⟨g, t, cs, fuel, p, q, hg, ht, hv, hd, _, _⟩, _, _⟩ := h
  obtain rfl := Option.some.inj (tab_g.symm.trans hg)
  obtain rfl := Option.some.inj (tab_t.symm.trans ht)
  obtain ⟨xs, m, _, ex, _, hl, hel⟩ := DataW.trod_array Tryd.underlying166 hd
  have hE := hel r (by omega)
  rw [tab_c, Nat.mul_one, List.getElem?_eq_getElem (by omega)] at hE
  obtain ⟨z, e1, e2, _⟩ := DataW.trod_int Tryd.underlying3 hE
  have hlen : tabL.length = 13 := by kernel_rfl
  have e3 : (xs.map (·.1)) = tabL.map fun n => .lit (.int .i64 n) := (DataW.agg.inj (Prod.mk.inj ex).1).symm
  have e4 : (xs.map (·.1))[r]? = (tabL.map fun n => (DataW.lit (.int .i64 n) : DataW Unit))[r]? := by rw [e3]
  rw [List.getElem?_map, List.getElem?_map, List.getElem?_eq_getElem (by omega : r < xs.length), List.getElem?_eq_getElem (by omega : r < tabL.length), e2] at e4
  have hz : z = tabL.getD r 0 := by
    simp only [Option.map_some, Option.some.injEq, DataW.lit.injEq, Lit.int.injEq, true_and] at e4
    rw [e4, List.getD, List.getElem?_eq_getElem (by omega : r < tabL.length)]; rfl
  rw [World.var?_cell hg hv r, ← hz]
  have : cs.toList[r]? = some (.int .i64 z) := by
    have h0 : ((cs.toList.drop r).take 1)[0]? = some (.int .i64 z) := by rw [e1]; rfl
    simpa using h0
  simpa using this
theorem tab_of_laidT {W : World} (h : laidMetH Tryd.prog laidListT W) : TabAt W := by
  have h' : laidMet Tryd.prog laidListT W := h
  exact tab_of_met h'
noncomputable def laidWorldT (os : Os) : World :=
  let w0 := World.holding Tryd.prog os ⟨#[], #[], []⟩
  { w0 with heap := w0.heap.modify 0 fun
      | .cells _ t frozen => .cells tabCells t frozen
      | o => o }
theorem laidWorldT_met (os : Os) (args : Array Value) : laidMetH Tryd.prog laidListT ((laidWorldT os).forCall (fun _ _ => 0) ⟨#[], args, []⟩).memory := by
  have h : laidMet Tryd.prog laidListT ((laidWorldT os).forCall (fun _ _ => 0) ⟨#[], args, []⟩).memory := laidMet_of_run' 8 (by kernel_rfl) (by kernel_rfl)
  exact h
def laidListTH : List (String × DataW Unit) := [("noonmark/civil.before", Rows.laid_noonmark_civil_before), ("errors.errorType", Rows.laid_errors_errorType)]
theorem parts_of_laidTH {W : World} (h : laidMetH Tryd.prog laidListTH W) : laidMet Tryd.prog laidListT W ∧ handlesMet Tryd.prog laidList W := h
theorem tab_of_laidTH {W : World} (h : laidMetH Tryd.prog laidListTH W) : TabAt W := tab_of_met (parts_of_laidTH h).1
theorem handle_of_laidTH {W : World} (h : laidMetH Tryd.prog laidListTH W) : HandleAt W := by
  have h2 : laidMet Tryd.prog [] W ∧ handlesMet Tryd.prog laidList W := ⟨laidMet_nil _ _, (parts_of_laidTH h).2⟩
  have h3 : laidMetH Tryd.prog laidList W := h2
  exact handle_of_laid h3
noncomputable def laidWorldTH (os : Os) : World :=
  { laidWorldT os with heap := (laidWorldT os).heap.modify 1 fun
      | .cells _ t frozen => .cells #[.iface 185 (.agg #[.pointer (some ⟨2, 26, none⟩)])] t frozen
      | o => o }
theorem laidWorldTH_met (os : Os) (args : Array Value) : laidMetH Tryd.prog laidListTH ((laidWorldTH os).forCall (fun _ _ => 0) ⟨#[], args, []⟩).memory := by
  have h : laidMet Tryd.prog laidListT ((laidWorldTH os).forCall (fun _ _ => 0) ⟨#[], args, []⟩).memory := laidMet_of_run' 8 (by kernel_rfl) (by kernel_rfl)
  exact laidMetH_of_parts h (by kernel_rfl)
end Go.Proofs.YtfjpfkejajgkbaaDoor
