/- What a session's row lists: what it gives; a world that meets it. -/
import Derived.Test.YtldlandcjegikaaGreatDoorHK5
import Derived.Test.YtldlandcjegikaaGreatDoorHK7
import Derived.LaidMore
import Derived.LaidLaws
import Derived.ChangeSame
import Derived.Lib.LaidTab
import Derived.Stop.LaidErr
import Derived.Deep.DeepHandedRow
namespace Go.Proofs.YtldlandcjegikaaGreatDoor
open Go.ChangeShapes Go.WideShapes Go.ChangeAt Go.RowKit
set_option linter.unusedVariables false
set_option linter.unusedSimpArgs false
theorem ur_g : Tryz.prog.globalNamed "noonmark/run.unread" = some 0 := by kernel_rfl
theorem ur_t : (Tryz.prog.globals[0]?).map (·.type) = some 104 := by kernel_rfl
theorem ur_c : Tryz.prog.cellsOf 104 = 1 := by kernel_rfl
theorem ur_e : Tryz.prog.cellsOf 36 = 1 := by kernel_rfl
set_option maxRecDepth 100000 in
theorem errno_row (u : TypeId) (hu : Tryz.prog.typeName? 3 u = some "noonmark/api.Errno") : u = 88 := by
 by_cases hlt : u < Tryz.prog.types.size
 ·have h0 : ((List.range Tryz.prog.types.size).all fun u => Tryz.prog.typeName? 3 u != some "noonmark/api.Errno" || u == 88) = true := by kernel_rfl
  have := List.all_eq_true.1 h0 u (List.mem_range.2 hlt)
  simpa [hu] using this
 ·exfalso
  unfold Program.typeName? at hu
  cases hi : Tryz.prog.info? u with
  | none => simp [hi] at hu
  | some i =>
   have hb := Tables.info?_beyond hlt hi
   simp only [hi] at hu
   cases hd : i.desc <;> simp only [hd, TypeDesc.tableOnly] at hu hb <;> try cases hb
   all_goals try cases hu
   rename_i e
   simp only [Option.map_eq_some_iff] at hu
   obtain ⟨n', hn', hs⟩ := hu
   have := congrArg (fun s => s.toList.head?) hs
   simp [String.toList_append] at this
set_option maxRecDepth 100000 in
theorem unread_of_head {W : World} {r : List (String × DataW Unit)} (h : laidMet Tryz.prog (("noonmark/run.unread", Rows.laid_noonmark_run_unread) :: r) W) : UnreadAt W := by
 obtain ⟨ps, ⟨g0, t0, cs0, f0, p0, q0, hg0, ht0, hv0, hd0, _, e0⟩, _, hrows⟩ := h
 obtain rfl := Option.some.inj (ur_g.symm.trans hg0)
 obtain rfl := Option.some.inj (ur_t.symm.trans ht0)
 subst e0
 obtain ⟨l0⟩ := cs0
 have hd1 : DataW.trod (fun _ => ()) Tryz.prog W 0 (fun _ => true) false f0 104 l0 = some (.agg [.iface "noonmark/api.Errno" (.lit (.int .i64 2))], p0) := hd0
 have h1 := trod_struct1 Tryz.underlying104 hd1
 obtain ⟨y0, n, hx, hl, hy⟩ := h1
 rw [ur_c] at hl
 obtain ⟨c0, rfl⟩ : ∃ c, l0 = [c] := by
  match l0, hl with
  | [c], _ => exact ⟨c, rfl⟩
 have hy2 : DataW.trod (fun _ => ()) Tryz.prog W 0 (fun _ => true) false n 36 [c0] = some y0 := by
  have : ((List.drop 0 [c0]).take (Tryz.prog.cellsOf 36)) = [c0] := by rw [ur_e]; rfl
  rw [← this]; exact hy
 obtain ⟨y1, y2⟩ := y0
 have hy3 : y1 = .iface "noonmark/api.Errno" (.lit (.int .i64 2)) := by
  have := (Prod.mk.inj hx).1
  simp only [DataW.agg.injEq, List.cons.injEq, and_true] at this
  exact this.symm
 subst hy3
 obtain ⟨f1, u, v, e1, hn, h2⟩ := iface_of_trod Tryz.underlying36 hy2
 obtain rfl := List.cons.inj e1 |>.1
 obtain rfl := errno_row u hn
 obtain ⟨z, e3, e4, _⟩ := DataW.trod_int Tryz.underlying88 h2
 have ok := (hrows 0 0 (by simp [MemPlace.row])).2 _ v (by simpa using World.var?_cell hg0 hv0 0)
 have hz : z = 2 := by have := e4.symm; simp at this; exact this.1
 subst hz
 have hv : v = .int .i64 2 := by
  unfold Value.okWide at ok
  simp only [Tryz.underlying88] at ok
  cases v <;> simp [Value.cells, Cell.okWide, Cell.ok, Tryz.underlying88] at ok e3 <;> simp_all
 subst hv
 have hu := World.var?_cell hg0 hv0 0
 unfold UnreadAt
 simpa using hu
theorem tab_of_head {W : World} {l : List (String × DataW Unit)} (h : laidMet Tryz.prog (("noonmark/civil.before", Rows.laid_noonmark_civil_before) :: l) W) : TabAt W := by
 intro r hr
 rw [← tabL_before r hr]
 obtain ⟨ps, ⟨g, t, cs, fuel, p, q, hg, ht, hv, hd, _, _⟩, _, _⟩ := h
 obtain rfl := Option.some.inj (tab_g.symm.trans hg)
 obtain rfl := Option.some.inj (tab_t.symm.trans ht)
 obtain ⟨xs, m, _, ex, _, hl, hel⟩ := DataW.trod_array Tryz.underlying257 hd
 have hE := hel r (by omega)
 rw [tab_c, Nat.mul_one, List.getElem?_eq_getElem (by omega)] at hE
 obtain ⟨z, e1, e2, _⟩ := DataW.trod_int Tryz.underlying3 hE
 have hlen : tabL.length = 13 := by kernel_rfl
 have e3 : (xs.map (·.1)) = tabL.map fun n => .lit (.int .i64 n) := (DataW.agg.inj (Prod.mk.inj ex).1).symm
 have e4 : (xs.map (·.1))[r]? = (tabL.map fun n => (DataW.lit (.int .i64 n) : DataW Unit))[r]? := by rw [e3]
 rw [List.getElem?_map, List.getElem?_map, List.getElem?_eq_getElem (by omega : r < xs.length), List.getElem?_eq_getElem (by omega : r < tabL.length), e2] at e4
 have hz : z = tabL.getD r 0 := by
  simp only [Option.map_some, Option.some.injEq, DataW.lit.injEq, Lit.int.injEq, true_and] at e4
  rw [e4, List.getD, List.getElem?_eq_getElem (by omega : r < tabL.length)]; rfl
 rw [World.var?_cell hg hv r, ← hz]
 have : cs.toList[r]? = some (.int .i64 z) := by
  have h0 : ((cs.toList.drop r).take 1)[0]? = some (.int .i64 z) := by rw [e1]; rfl
  simpa using h0
 simpa using this
def laidDataR0 : List (String × DataW Unit) := [("math/bits.deBruijn32tab", Rows.laid_math_bits_deBruijn32tab), ("math/bits.deBruijn64tab", Rows.laid_math_bits_deBruijn64tab), ("internal/strconv.uint64pow10", Rows.laid_internal_strconv_uint64pow10), ("noonmark/civil.before", Rows.laid_noonmark_civil_before), ("unicode/utf8.acceptRanges", Rows.laid_unicode_utf8_acceptRanges), ("strconv.ErrRange", Rows.laid_strconv_ErrRange), ("strconv.ErrSyntax", Rows.laid_strconv_ErrSyntax), ("noonmark/run.unread", Rows.laid_noonmark_run_unread), ("unicode/utf8.first", Rows.laid_unicode_utf8_first)]
def laidDataR : List (String × DataW Unit) := [("math/bits.deBruijn32tab", Rows.laid_math_bits_deBruijn32tab), ("math/bits.deBruijn64tab", Rows.laid_math_bits_deBruijn64tab), ("internal/strconv.uint64pow10", Rows.laid_internal_strconv_uint64pow10), ("noonmark/civil.before", Rows.laid_noonmark_civil_before), ("unicode/utf8.acceptRanges", Rows.laid_unicode_utf8_acceptRanges), ("errors.errorType", Rows.laid_errors_errorType), ("strconv.ErrRange", Rows.laid_strconv_ErrRange), ("strconv.ErrSyntax", Rows.laid_strconv_ErrSyntax), ("noonmark/run.unread", Rows.laid_noonmark_run_unread), ("unicode/utf8.first", Rows.laid_unicode_utf8_first)]
set_option maxRecDepth 100000 in
theorem parts_of_laidR {W : World} (h : laidMetH Tryz.prog laidDataR W) : laidMet Tryz.prog laidDataR0 W ∧ handlesMet Tryz.prog laidList W := h
theorem runW_of_laidR {W : World} (h : laidMetH Tryz.prog laidDataR W) (hs : W.ShapedOpen Tryz.prog) : RunW W := by
 obtain ⟨h0, hh⟩ := parts_of_laidR h
 have h1 : laidMet Tryz.prog [("internal/strconv.uint64pow10", Lib.tabData .u64 Lib.pow10Tab), ("noonmark/civil.before", Rows.laid_noonmark_civil_before), ("unicode/utf8.acceptRanges", Rows.laid_unicode_utf8_acceptRanges), ("strconv.ErrRange", Rows.laid_strconv_ErrRange), ("strconv.ErrSyntax", Rows.laid_strconv_ErrSyntax), ("noonmark/run.unread", Rows.laid_noonmark_run_unread), ("unicode/utf8.first", Rows.laid_unicode_utf8_first)] W := laidMet.tail (laidMet.tail h0)
 have h2 := laidMet.tail h1
 have h4 := laidMet.tail (laidMet.tail h2)
 have h5 := laidMet.tail h4
 have h6 := laidMet.tail h5
 obtain ⟨a1, s1, v1, _⟩ := laid_sentinel h4 sw_rng up_rngT Tryz.underlying36 up_row Tryz.underlying260 Tryz.underlying262 rfl rfl Tryz.underlying9 up_cE up_cS
 obtain ⟨a2, s2, v2, _⟩ := laid_sentinel h5 sw_syn up_synT Tryz.underlying36 up_row Tryz.underlying260 Tryz.underlying262 rfl rfl Tryz.underlying9 up_cE up_cS
 have hh2 : laidMet Tryz.prog [] W ∧ handlesMet Tryz.prog laidList W := ⟨laidMet_nil _ _, hh⟩
 have hh3 : laidMetH Tryz.prog laidList W := hh2
 exact ⟨handle_of_laid hh3, ⟨Lib.tabIs_of_head sw_tab up_tabT Tryz.underlying264 Tryz.underlying236 up_c64 up_cT h1, ⟨_, _, v2⟩, ⟨_, _, v1⟩, cutL.s1_3 W hs⟩, tab_of_head h2, unread_of_head h6⟩
def cellsR : DataW Unit → List Value
 | .agg xs => xs.flatMap fun x => match x with
  | .lit (.int k z) => [Value.int k z]
  | .agg ys => ys.flatMap fun y => match y with
   | .lit (.int k z) => [Value.int k z]
   | _ => []
  | _ => []
 | _ => []
noncomputable def laidWorldR (os : Os) : World :=
 let w1 := laidWorldU os
 { w1 with heap := ((((w1.heap.modify 5 (putU tabCells)).modify 8 (putU (cellsR Rows.laid_unicode_utf8_acceptRanges).toArray)).modify 0 (putU #[.iface 88 (.int .i64 2)])).modify 7 (putU (cellsR Rows.laid_unicode_utf8_first).toArray)).modify 1 (putU #[.iface 191 (.agg #[.pointer (some ⟨11, 36, none⟩)])]) }
set_option maxRecDepth 100000 in
theorem laidWorldR_data (os : Os) (args : Array Value) : laidMet Tryz.prog laidDataR0 ((laidWorldR os).forCall (fun _ _ => 0) ⟨#[], args, []⟩).memory :=
 laidMet_of_run' 8 kRf kRf
set_option maxRecDepth 100000 in
theorem laidWorldR_met (os : Os) (args : Array Value) : laidMetH Tryz.prog laidDataR ((laidWorldR os).forCall (fun _ _ => 0) ⟨#[], args, []⟩).memory :=
 laidMetH_of_parts (laidWorldR_data os args) kRf
end Go.Proofs.YtldlandcjegikaaGreatDoor
