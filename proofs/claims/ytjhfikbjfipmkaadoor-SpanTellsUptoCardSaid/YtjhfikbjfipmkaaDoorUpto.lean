/- The second form's frame: what a row that lists strconv's variables gives (SpanW, the handle); a world that meets it; what the bound gives. -/
import Derived.Test.YtjhfikbjfipmkaaDoorDoor
import Derived.Test.YtjhfikbjfipmkaaDoorSpanS
import Derived.LaidMore
import Derived.Lib.LaidTab
import Derived.Stop.LaidErr
import Derived.Deep.DeepHandedRow
namespace Go.Proofs.YtjhfikbjfipmkaaDoor
open Go.ChangeShapes Go.WideShapes Go.ChangeAt Go.RowKit
set_option linter.unusedVariables false
set_option linter.unusedSimpArgs false
theorem up_tabT : (Tryd.prog.globals[4]?).map (·.type) = some 118 := by kernel_rfl
theorem up_rngT : (Tryd.prog.globals[3]?).map (·.type) = some 25 := by kernel_rfl
theorem up_synT : (Tryd.prog.globals[2]?).map (·.type) = some 25 := by kernel_rfl
theorem up_c64 : Tryd.prog.cellsOf 89 = 1 := by kernel_rfl
theorem up_cT : Tryd.prog.cellsOf 118 = 20 := by kernel_rfl
theorem up_cE : Tryd.prog.cellsOf 126 = 1 := by kernel_rfl
theorem up_cS : Tryd.prog.cellsOf 9 = 1 := by kernel_rfl
theorem up_star : "*" ++ "errors.errorString" = "*errors.errorString" := by decide
theorem up_row (u : TypeId) (h : Tryd.prog.typeName? 3 u = some "*errors.errorString") : u = 124 :=
  typeName_ptr_named (nm := "errors.errorString") (by rw [up_star]; kernel_rfl) (by kernel_rfl) (by decide) u (by rw [up_star]; exact h)
def laidDataU : List (String × DataW Unit) := [("math/bits.deBruijn32tab", Rows.laid_math_bits_deBruijn32tab), ("math/bits.deBruijn64tab", Rows.laid_math_bits_deBruijn64tab), ("internal/strconv.uint64pow10", Rows.laid_internal_strconv_uint64pow10), ("strconv.ErrRange", Rows.laid_strconv_ErrRange), ("strconv.ErrSyntax", Rows.laid_strconv_ErrSyntax)]
theorem spanW_of_data {W : World} (h : laidMet Tryd.prog laidDataU W) (hs : W.ShapedOpen Tryd.prog) : SpanW W := by
  have h1 : laidMet Tryd.prog [("internal/strconv.uint64pow10", Lib.tabData .u64 Lib.pow10Tab), ("strconv.ErrRange", Rows.laid_strconv_ErrRange), ("strconv.ErrSyntax", Rows.laid_strconv_ErrSyntax)] W := laidMet.tail (laidMet.tail h)
  have h2 := laidMet.tail h1
  have h3 := laidMet.tail h2
  obtain ⟨a1, s1, v1, _⟩ := laid_sentinel h2 sw_rng up_rngT Tryd.underlying25 up_row Tryd.underlying124 Tryd.underlying126 rfl rfl Tryd.underlying9 up_cE up_cS
  obtain ⟨a2, s2, v2, _⟩ := laid_sentinel h3 sw_syn up_synT Tryd.underlying25 up_row Tryd.underlying124 Tryd.underlying126 rfl rfl Tryd.underlying9 up_cE up_cS
  exact ⟨Lib.tabIs_of_head sw_tab up_tabT Tryd.underlying118 Tryd.underlying89 up_c64 up_cT h1, ⟨_, _, v2⟩, ⟨_, _, v1⟩, cutL.s1_3 W hs⟩
def tabCellsU (d : DataW Unit) : Array Value := match d with
  | .agg xs => (xs.map fun x => match x with
    | .lit (.int k z) => Value.int k z
    | _ => .nilIface).toArray
  | _ => #[]
def putU (cs : Array Value) : Obj → Obj := fun
  | .cells _ t frozen => .cells cs t frozen
  | o => o
noncomputable def lowU : Nat := (World.holding Tryd.prog default ⟨#[], #[], []⟩).heap.size
noncomputable def laidWorldU (os : Os) : World :=
  let w0 := World.holding Tryd.prog os ⟨#[.cells #[.string ⟨#[118, 97, 108, 117, 101, 32, 111, 117, 116, 32, 111, 102, 32, 114, 97, 110, 103, 101]⟩] 126, .cells #[.string ⟨#[105, 110, 118, 97, 108, 105, 100, 32, 115, 121, 110, 116, 97, 120]⟩] 126], #[], []⟩
  { w0 with heap := ((((w0.heap.modify 5 (putU (tabCellsU Rows.laid_math_bits_deBruijn32tab))).modify 6 (putU (tabCellsU Rows.laid_math_bits_deBruijn64tab))).modify 4 (putU (tabCellsU Rows.laid_internal_strconv_uint64pow10))).modify 3 (putU #[.iface 124 (.pointer (some ⟨lowU, 0, none⟩))])).modify 2 (putU #[.iface 124 (.pointer (some ⟨lowU + 1, 0, none⟩))]) }
theorem laidWorldU_met (os : Os) (args : Array Value) : laidMet Tryd.prog laidDataU ((laidWorldU os).forCall (fun _ _ => 0) ⟨#[], args, []⟩).memory :=
  laidMet_of_run' 8 (by kernel_rfl) (by kernel_rfl)
theorem spanW_of_laidU {W : World} (h : laidMetH Tryd.prog laidDataU W) (hs : W.ShapedOpen Tryd.prog) : SpanW W := by
  have h' : laidMet Tryd.prog laidDataU W := h
  exact spanW_of_data h' hs
def laidDataUH : List (String × DataW Unit) := [("math/bits.deBruijn32tab", Rows.laid_math_bits_deBruijn32tab), ("math/bits.deBruijn64tab", Rows.laid_math_bits_deBruijn64tab), ("internal/strconv.uint64pow10", Rows.laid_internal_strconv_uint64pow10), ("errors.errorType", Rows.laid_errors_errorType), ("strconv.ErrRange", Rows.laid_strconv_ErrRange), ("strconv.ErrSyntax", Rows.laid_strconv_ErrSyntax)]
theorem parts_of_laidUH {W : World} (h : laidMetH Tryd.prog laidDataUH W) : laidMet Tryd.prog laidDataU W ∧ handlesMet Tryd.prog laidList W := h
theorem spanW_of_laidUH {W : World} (h : laidMetH Tryd.prog laidDataUH W) (hs : W.ShapedOpen Tryd.prog) : SpanW W := spanW_of_data (parts_of_laidUH h).1 hs
theorem handle_of_laidUH {W : World} (h : laidMetH Tryd.prog laidDataUH W) : HandleAt W := by
  have h2 : laidMet Tryd.prog [] W ∧ handlesMet Tryd.prog laidList W := ⟨laidMet_nil _ _, (parts_of_laidUH h).2⟩
  have h3 : laidMetH Tryd.prog laidList W := h2
  exact handle_of_laid h3
noncomputable def laidWorldUH (os : Os) : World :=
  { laidWorldU os with heap := (laidWorldU os).heap.modify 0 (putU #[.iface 95 (.agg #[.pointer (some ⟨7, 25, none⟩)])]) }
theorem laidWorldUH_data (os : Os) (args : Array Value) : laidMet Tryd.prog laidDataU ((laidWorldUH os).forCall (fun _ _ => 0) ⟨#[], args, []⟩).memory :=
  laidMet_of_run' 8 (by kernel_rfl) (by kernel_rfl)
theorem laidWorldUH_met (os : Os) (args : Array Value) : laidMetH Tryd.prog laidDataUH ((laidWorldUH os).forCall (fun _ _ => 0) ⟨#[], args, []⟩).memory :=
  laidMetH_of_parts (laidWorldUH_data os args) (by kernel_rfl)
end Go.Proofs.YtjhfikbjfipmkaaDoor
