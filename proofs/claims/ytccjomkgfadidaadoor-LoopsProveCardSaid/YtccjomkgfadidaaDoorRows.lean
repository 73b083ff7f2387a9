/-
  NARROWER THAN 'FOR EVERY INPUT', by the rows' own cells (each row's printed sentence says how): LoopsTell: laid · LoopsAround: laid · LoopsProve: laid.
  DERIVED. THE GIVEN ROWS OF THIS SEAT. 3 by the template 'for every input the law returns true; each argument reads behind the call as it read before'; 0 by the template 'total and deterministic' (their statements: YtccjomkgfadidaaDoorTotals.lean).
  GIVEN WITH THE SEED: the statements are not yours to turn. If you find one false, say at which input.
  Laid BY PROGRAM, IN A SANDBOX (cutbox-rows.mjs): the forced cells as the released guide's own fill.sh prints them over the translation 8a7987f51d5d80a2… (all of the seat's roots in one cut). By AI agents, Wed Nov 11 2026. No macro, syntax, notation, axiom, sorry.
-/
import Derived.Test.YtccjomkgfadidaaDoorChecked
import GoSem.Claim
import GoSem.ClaimJoined
import GoSem.ClaimMapViews
import Derived.JoinedTies
import Derived.KernelRfl
namespace Go.Proofs.YtccjomkgfadidaaDoor
/- THE CELL 'sum', in the pinned program and in every row, IS THE sha256 OF THE DUMP (.gsa) THAT YtccjomkgfadidaaDoorProg.lean LOADS. Nothing in Lean hashes anything: it is a label: what it is worth is what the hold of that sum in a sandbox is worth. -/
noncomputable def Tryd.pinned : Pinned := { name := "ytccjomkgfadidaadoor", sum := "8a7987f51d5d80a2f0da3a5f4c82a9c1acc090380d04b0d1504429a421ab12e8", checked := Tryd.checked }
namespace Rows
def none {H : Type} : Left H := { results := [], args := [] }

/- WHAT THE LISTED PACKAGE-LEVEL VARIABLES READ AS WHEN THE CALL BEGINS. Each datum BY PROGRAM (the guide's laid-datum.mjs) off the statement by which the dump's own 'gosem.cut.vars' lays the variable. In a bare row this is a premise. The card (YtccjomkgfadidaaDoorCards.lean) ties it to the program's text. -/
def laid_errors_errorType {H : Type} : DataW H := .iface "internal/reflectlite.rtype" (.agg [.ptr (.lit (.string [101, 114, 114, 111, 114]))])

/-- 'noonlaw1.LoopsTell': WHATEVER THE INPUT: true; the input reads as it did. -/
def loopsTellSpec : ChangeSpec := { name := "loopsTell", fn := fun _ => fun
  | [d1, d2, d3] => { results := [.lit (.bool true)], args := [d1, d2, d3] }
  | _ => none }
def loopsTellRow : OpenClaim := { program := "ytccjomkgfadidaadoor", sum := "8a7987f51d5d80a2f0da3a5f4c82a9c1acc090380d04b0d1504429a421ab12e8", func := "noonmark/noonlaw1.LoopsTell", spec := "loopsTell", inPlace := ["internal/reflectlite.ValueOf", "(internal/reflectlite.Value).Type", "(internal/reflectlite.Value).IsNil", "internal/reflectlite.TypeOf", "(internal/reflectlite.Value).Elem", "(internal/reflectlite.Value).Set"], unfollowed := true, recurses := true, named := ["errors.errorType"], apart := false, laid := [("errors.errorType", laid_errors_errorType)] }
def LoopsTellSaid : Prop := loopsTellRow.holds Tryd.pinned (OpenSpec.ofChange loopsTellSpec)

/-- ITS FALSE NEIGHBOUR: 'it returns false'. Refute it at one input. -/
def loopsTellWrong : ChangeSpec := { name := "loopsTell", fn := fun _ => fun
  | [d1, d2, d3] => { results := [.lit (.bool false)], args := [d1, d2, d3] }
  | _ => none }
def LoopsTellWrongFalsely : Prop := loopsTellRow.holds Tryd.pinned (OpenSpec.ofChange loopsTellWrong)

/-- 'noonlaw4.LoopsAround': WHATEVER THE INPUT: true; the input reads as it did. -/
def loopsAroundSpec : ChangeSpec := { name := "loopsAround", fn := fun _ => fun
  | [d1, d2] => { results := [.lit (.bool true)], args := [d1, d2] }
  | _ => none }
def loopsAroundRow : OpenClaim := { program := "ytccjomkgfadidaadoor", sum := "8a7987f51d5d80a2f0da3a5f4c82a9c1acc090380d04b0d1504429a421ab12e8", func := "noonmark/noonlaw4.LoopsAround", spec := "loopsAround", inPlace := ["internal/reflectlite.ValueOf", "(internal/reflectlite.Value).Type", "(internal/reflectlite.Value).IsNil", "internal/reflectlite.TypeOf", "(internal/reflectlite.Value).Elem", "(internal/reflectlite.Value).Set"], unfollowed := true, recurses := true, named := ["errors.errorType"], apart := false, laid := [("errors.errorType", laid_errors_errorType)] }
def LoopsAroundSaid : Prop := loopsAroundRow.holds Tryd.pinned (OpenSpec.ofChange loopsAroundSpec)

/-- ITS FALSE NEIGHBOUR: 'it returns false'. Refute it at one input. -/
def loopsAroundWrong : ChangeSpec := { name := "loopsAround", fn := fun _ => fun
  | [d1, d2] => { results := [.lit (.bool false)], args := [d1, d2] }
  | _ => none }
def LoopsAroundWrongFalsely : Prop := loopsAroundRow.holds Tryd.pinned (OpenSpec.ofChange loopsAroundWrong)

/-- 'noonlaw1.LoopsProve': WHATEVER THE INPUT: true; the input reads as it did. -/
def loopsProveSpec : ChangeSpec := { name := "loopsProve", fn := fun _ => fun
  | [d1, d2, d3, d4] => { results := [.lit (.bool true)], args := [d1, d2, d3, d4] }
  | _ => none }
def loopsProveRow : OpenClaim := { program := "ytccjomkgfadidaadoor", sum := "8a7987f51d5d80a2f0da3a5f4c82a9c1acc090380d04b0d1504429a421ab12e8", func := "noonmark/noonlaw1.LoopsProve", spec := "loopsProve", inPlace := ["internal/reflectlite.ValueOf", "(internal/reflectlite.Value).Type", "(internal/reflectlite.Value).IsNil", "internal/reflectlite.TypeOf", "(internal/reflectlite.Value).Elem", "(internal/reflectlite.Value).Set"], unfollowed := true, recurses := true, named := ["errors.errorType"], apart := false, laid := [("errors.errorType", laid_errors_errorType)] }
def LoopsProveSaid : Prop := loopsProveRow.holds Tryd.pinned (OpenSpec.ofChange loopsProveSpec)

/-- ITS FALSE NEIGHBOUR: 'it returns false'. Refute it at one input. -/
def loopsProveWrong : ChangeSpec := { name := "loopsProve", fn := fun _ => fun
  | [d1, d2, d3, d4] => { results := [.lit (.bool false)], args := [d1, d2, d3, d4] }
  | _ => none }
def LoopsProveWrongFalsely : Prop := loopsProveRow.holds Tryd.pinned (OpenSpec.ofChange loopsProveWrong)

/- THE SECOND FORM. 'bulk': how many values and letters a reading holds, each counted each time it is reached (what is shared counts as often as it is met; a slice's spare places count too). A statement '..UptoSaid' is the law's where the arguments, and the package variables that the reading takes, are together of bulk at most 1048576: NARROWER than '..Said'. Prove '..Said' where nothing that the law and all that it calls make is longer than what came in: it says more and counts as full. Else prove '..UptoSaid'. A law counts once. -/
mutual
def uptoBulk {H : Type} : DataW H → Nat
  | .lit (.string bytes) => bytes.length + 1
  | .lit _ => 1
  | .nil => 1
  | .ptr d => uptoBulk d + 1
  | .slice elems spare => uptoBulkAll elems + uptoBulkAll spare + 1
  | .agg parts => uptoBulkAll parts + 1
  | .iface _ d => uptoBulk d + 1
  | .map entries => uptoBulkEntries entries + 1
  | .held _ => 1
def uptoBulkAll {H : Type} : List (DataW H) → Nat
  | [] => 0
  | d :: r => uptoBulk d + uptoBulkAll r
def uptoBulkEntries {H : Type} : List (Lit × DataW H) → Nat
  | [] => 0
  | x :: r => uptoBulkEntry x + uptoBulkEntries r
def uptoBulkEntry {H : Type} : Lit × DataW H → Nat
  | (.string bytes, d) => bytes.length + uptoBulk d + 1
  | (_, d) => uptoBulk d + 1
 end
def uptoSmall : (H : Type) → List (DataW H) → Bool := fun _ ds => decide (uptoBulkAll ds ≤ 1048576)
def OpenSpec.upto (s : _root_.Go.ChangeSpec) : _root_.Go.OpenSpec := { _root_.Go.OpenSpec.ofChange s with cond := some uptoSmall }

/-- 'noonlaw1.LoopsTell', WHERE WHAT IT READS IS OF BULK AT MOST 1048576: true; the input reads as it did. -/
def loopsTellUptoRow : OpenClaim := { program := "ytccjomkgfadidaadoor", sum := "8a7987f51d5d80a2f0da3a5f4c82a9c1acc090380d04b0d1504429a421ab12e8", func := "noonmark/noonlaw1.LoopsTell", spec := "loopsTell", inPlace := ["internal/reflectlite.ValueOf", "(internal/reflectlite.Value).Type", "(internal/reflectlite.Value).IsNil", "internal/reflectlite.TypeOf", "(internal/reflectlite.Value).Elem", "(internal/reflectlite.Value).Set"], unfollowed := true, recurses := true, named := ["errors.errorType"], apart := false, laid := [("errors.errorType", laid_errors_errorType)], narrowed := true }
def LoopsTellUptoSaid : Prop := loopsTellUptoRow.holds Tryd.pinned (OpenSpec.upto loopsTellSpec)

/-- 'noonlaw4.LoopsAround', WHERE WHAT IT READS IS OF BULK AT MOST 1048576: true; the input reads as it did. -/
def loopsAroundUptoRow : OpenClaim := { program := "ytccjomkgfadidaadoor", sum := "8a7987f51d5d80a2f0da3a5f4c82a9c1acc090380d04b0d1504429a421ab12e8", func := "noonmark/noonlaw4.LoopsAround", spec := "loopsAround", inPlace := ["internal/reflectlite.ValueOf", "(internal/reflectlite.Value).Type", "(internal/reflectlite.Value).IsNil", "internal/reflectlite.TypeOf", "(internal/reflectlite.Value).Elem", "(internal/reflectlite.Value).Set"], unfollowed := true, recurses := true, named := ["errors.errorType"], apart := false, laid := [("errors.errorType", laid_errors_errorType)], narrowed := true }
def LoopsAroundUptoSaid : Prop := loopsAroundUptoRow.holds Tryd.pinned (OpenSpec.upto loopsAroundSpec)

/-- 'noonlaw1.LoopsProve', WHERE WHAT IT READS IS OF BULK AT MOST 1048576: true; the input reads as it did. -/
def loopsProveUptoRow : OpenClaim := { program := "ytccjomkgfadidaadoor", sum := "8a7987f51d5d80a2f0da3a5f4c82a9c1acc090380d04b0d1504429a421ab12e8", func := "noonmark/noonlaw1.LoopsProve", spec := "loopsProve", inPlace := ["internal/reflectlite.ValueOf", "(internal/reflectlite.Value).Type", "(internal/reflectlite.Value).IsNil", "internal/reflectlite.TypeOf", "(internal/reflectlite.Value).Elem", "(internal/reflectlite.Value).Set"], unfollowed := true, recurses := true, named := ["errors.errorType"], apart := false, laid := [("errors.errorType", laid_errors_errorType)], narrowed := true }
def LoopsProveUptoSaid : Prop := loopsProveUptoRow.holds Tryd.pinned (OpenSpec.upto loopsProveSpec)

end Rows
end Go.Proofs.YtccjomkgfadidaaDoor
