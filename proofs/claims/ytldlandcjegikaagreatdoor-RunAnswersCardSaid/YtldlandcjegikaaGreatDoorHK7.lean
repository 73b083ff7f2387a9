/- Texts that serve many laws, one behind the other. -/
import Derived.Deep.DeepHandedRow
import Derived.LaidMore
import Derived.Lib.LaidTab
import Derived.Stop.LaidErr
import Derived.Test.YtldlandcjegikaaGreatDoorHK2
import Derived.Test.YtldlandcjegikaaGreatDoorHSpanS
set_option linter.unusedVariables false
set_option linter.unusedSimpArgs false
namespace Go.Proofs.YtldlandcjegikaaGreatDoor

section
open Go.ChangeShapes Go.WideShapes Go.ChangeAt Go.RowKit
theorem up_tabT : (Tryz.prog.globals[6]?).map (·.type) = some 264 := by kernel_rfl
theorem up_rngT : (Tryz.prog.globals[4]?).map (·.type) = some 36 := by kernel_rfl
theorem up_synT : (Tryz.prog.globals[3]?).map (·.type) = some 36 := by kernel_rfl
theorem up_c64 : Tryz.prog.cellsOf 236 = 1 := by kernel_rfl
theorem up_cT : Tryz.prog.cellsOf 264 = 20 := by kernel_rfl
theorem up_cE : Tryz.prog.cellsOf 262 = 1 := by kernel_rfl
theorem up_cS : Tryz.prog.cellsOf 9 = 1 := by kernel_rfl
theorem up_star : "*" ++ "errors.errorString" = "*errors.errorString" := by decide
theorem up_row (u : TypeId) (h : Tryz.prog.typeName? 3 u = some "*errors.errorString") : u = 260 :=
 typeName_ptr_named (nm := "errors.errorString") (by rw [up_star]; kernel_rfl) kRf (by decide) u (by rw [up_star]; exact h)
def tabCellsU (d : DataW Unit) : Array Value := match d with
 | .agg xs => (xs.map fun x => match x with
  | .lit (.int k z) => Value.int k z
  | _ => .nilIface).toArray
 | _ => #[]
def putU (cs : Array Value) : Obj → Obj := fun
 | .cells _ t frozen => .cells cs t frozen
 | o => o
noncomputable def lowU : Nat := (World.holding Tryz.prog default ⟨#[], #[], []⟩).heap.size
noncomputable def laidWorldU (os : Os) : World :=
 let w0 := World.holding Tryz.prog os ⟨#[.cells #[.string ⟨#[118, 97, 108, 117, 101, 32, 111, 117, 116, 32, 111, 102, 32, 114, 97, 110, 103, 101]⟩] 262, .cells #[.string ⟨#[105, 110, 118, 97, 108, 105, 100, 32, 115, 121, 110, 116, 97, 120]⟩] 262], #[], []⟩
 { w0 with heap := ((((w0.heap.modify 9 (putU (tabCellsU Rows.laid_math_bits_deBruijn32tab))).modify 10 (putU (tabCellsU Rows.laid_math_bits_deBruijn64tab))).modify 6 (putU (tabCellsU Rows.laid_internal_strconv_uint64pow10))).modify 4 (putU #[.iface 260 (.pointer (some ⟨lowU, 0, none⟩))])).modify 3 (putU #[.iface 260 (.pointer (some ⟨lowU + 1, 0, none⟩))]) }
end


section
open Go.ChangeShapes Go.WideShapes Go.ChangeAt Go.RowKit
theorem tab_g : Tryz.prog.globalNamed "noonmark/civil.before" = some 5 := by kernel_rfl
theorem tab_t : (Tryz.prog.globals[5]?).map (·.type) = some 257 := by kernel_rfl
theorem tab_c : Tryz.prog.cellsOf 3 = 1 := by kernel_rfl
def tabL : List Int := [0, 31, 59, 90, 120, 151, 181, 212, 243, 273, 304, 334, 365]
def tabCells : Array Value := #[.int .i64 0, .int .i64 31, .int .i64 59, .int .i64 90, .int .i64 120, .int .i64 151, .int .i64 181, .int .i64 212, .int .i64 243, .int .i64 273, .int .i64 304, .int .i64 334, .int .i64 365]
theorem tabL_before (k : Nat) (h : k ≤ 12) : tabL.getD k 0 = beforeD ((k : Int) + 1) := by
 have hc : k = 0 ∨ k = 1 ∨ k = 2 ∨ k = 3 ∨ k = 4 ∨ k = 5 ∨ k = 6 ∨ k = 7 ∨ k = 8 ∨ k = 9 ∨ k = 10 ∨ k = 11 ∨ k = 12 := by omega
 rcases hc with rfl | rfl | rfl | rfl | rfl | rfl | rfl | rfl | rfl | rfl | rfl | rfl | rfl <;> decide
end
end Go.Proofs.YtldlandcjegikaaGreatDoor
