/-
  NARROWER THAN 'FOR EVERY INPUT', by the rows' own cells (each row's printed sentence says how): KeeperPlays: laid · WaitTells: laid · TreeAll: laid · ClockWidens: laid · WaitOver: laid · WorldUnder: laid · ClockPlays: laid · ClockHolds: laid · WireTells: laid · TreeTells: laid · NodeLearns: laid · WorldPlays: laid.
  DERIVED. THE GIVEN ROWS OF THIS SEAT. 12 by the template 'for every input the law returns true; each argument reads behind the call as it read before'; 0 by the template 'total and deterministic' (their statements: YtkejdfpdehchcaaDoorTotals.lean).
  GIVEN WITH THE SEED: the statements are not yours to turn. If you find one false, say at which input.
  Laid BY PROGRAM, IN A SANDBOX (cutbox-rows.mjs): the forced cells as the released guide's own fill.sh prints them over the translation 1e070182fdc28047… (all of the seat's roots in one cut). By AI agents, Wed Nov 11 2026. No macro, syntax, notation, axiom, sorry.
-/
import Derived.Test.YtkejdfpdehchcaaDoorChecked
import GoSem.Claim
import GoSem.ClaimJoined
import GoSem.ClaimMapViews
import Derived.JoinedTies
import Derived.KernelRfl
namespace Go.Proofs.YtkejdfpdehchcaaDoor
/- THE CELL 'sum', in the pinned program and in every row, IS THE sha256 OF THE DUMP (.gsa) THAT YtkejdfpdehchcaaDoorProg.lean LOADS. Nothing in Lean hashes anything: it is a label: what it is worth is what the hold of that sum in a sandbox is worth. -/
noncomputable def Tryd.pinned : Pinned := { name := "ytkejdfpdehchcaadoor", sum := "1e070182fdc28047bf8bd2759eeda549b72760e3c4e19c1b7d8f409d670aaaab", checked := Tryd.checked }
namespace Rows
def none {H : Type} : Left H := { results := [], args := [] }

/- WHAT THE LISTED PACKAGE-LEVEL VARIABLES READ AS WHEN THE CALL BEGINS. Each datum BY PROGRAM (the guide's laid-datum.mjs) off the statement by which the dump's own 'gosem.cut.vars' lays the variable. In a bare row this is a premise. The card (YtkejdfpdehchcaaDoorCards.lean) ties it to the program's text. -/
def laid_errors_errorType {H : Type} : DataW H := .iface "internal/reflectlite.rtype" (.agg [.ptr (.lit (.string [101, 114, 114, 111, 114]))])

/-- 'noonlaw3.KeeperPlays': WHATEVER THE INPUT: true; the input reads as it did. -/
def keeperPlaysSpec : ChangeSpec := { name := "keeperPlays", fn := fun _ => fun
  | [d1, d2] => { results := [.lit (.bool true)], args := [d1, d2] }
  | _ => none }
def keeperPlaysRow : OpenClaim := { program := "ytkejdfpdehchcaadoor", sum := "1e070182fdc28047bf8bd2759eeda549b72760e3c4e19c1b7d8f409d670aaaab", func := "noonmark/noonlaw3.KeeperPlays", spec := "keeperPlays", inPlace := ["internal/reflectlite.ValueOf", "(internal/reflectlite.Value).Type", "(internal/reflectlite.Value).IsNil", "internal/reflectlite.TypeOf", "(internal/reflectlite.Value).Elem", "(internal/reflectlite.Value).Set"], unfollowed := true, recurses := true, named := ["errors.errorType"], apart := false, laid := [("errors.errorType", laid_errors_errorType)] }
def KeeperPlaysSaid : Prop := keeperPlaysRow.holds Tryd.pinned (OpenSpec.ofChange keeperPlaysSpec)

/-- ITS FALSE NEIGHBOUR: 'it returns false'. Refute it at one input. -/
def keeperPlaysWrong : ChangeSpec := { name := "keeperPlays", fn := fun _ => fun
  | [d1, d2] => { results := [.lit (.bool false)], args := [d1, d2] }
  | _ => none }
def KeeperPlaysWrongFalsely : Prop := keeperPlaysRow.holds Tryd.pinned (OpenSpec.ofChange keeperPlaysWrong)

/-- 'noonlaw2.WaitTells': WHATEVER THE INPUT: true; the input reads as it did. -/
def waitTellsSpec : ChangeSpec := { name := "waitTells", fn := fun _ => fun
  | [d1, d2, d3] => { results := [.lit (.bool true)], args := [d1, d2, d3] }
  | _ => none }
def waitTellsRow : OpenClaim := { program := "ytkejdfpdehchcaadoor", sum := "1e070182fdc28047bf8bd2759eeda549b72760e3c4e19c1b7d8f409d670aaaab", func := "noonmark/noonlaw2.WaitTells", spec := "waitTells", inPlace := ["internal/reflectlite.ValueOf", "(internal/reflectlite.Value).Type", "(internal/reflectlite.Value).IsNil", "internal/reflectlite.TypeOf", "(internal/reflectlite.Value).Elem", "(internal/reflectlite.Value).Set"], unfollowed := true, recurses := true, named := ["errors.errorType"], apart := false, laid := [("errors.errorType", laid_errors_errorType)] }
def WaitTellsSaid : Prop := waitTellsRow.holds Tryd.pinned (OpenSpec.ofChange waitTellsSpec)

/-- ITS FALSE NEIGHBOUR: 'it returns false'. Refute it at one input. -/
def waitTellsWrong : ChangeSpec := { name := "waitTells", fn := fun _ => fun
  | [d1, d2, d3] => { results := [.lit (.bool false)], args := [d1, d2, d3] }
  | _ => none }
def WaitTellsWrongFalsely : Prop := waitTellsRow.holds Tryd.pinned (OpenSpec.ofChange waitTellsWrong)

/-- 'noonlaw4.TreeAll': WHATEVER THE INPUT: true; the input reads as it did. -/
def treeAllSpec : ChangeSpec := { name := "treeAll", fn := fun _ => fun
  | [d1, d2] => { results := [.lit (.bool true)], args := [d1, d2] }
  | _ => none }
def treeAllRow : OpenClaim := { program := "ytkejdfpdehchcaadoor", sum := "1e070182fdc28047bf8bd2759eeda549b72760e3c4e19c1b7d8f409d670aaaab", func := "noonmark/noonlaw4.TreeAll", spec := "treeAll", inPlace := ["internal/reflectlite.ValueOf", "(internal/reflectlite.Value).Type", "(internal/reflectlite.Value).IsNil", "internal/reflectlite.TypeOf", "(internal/reflectlite.Value).Elem", "(internal/reflectlite.Value).Set"], unfollowed := true, recurses := true, named := ["errors.errorType"], apart := false, laid := [("errors.errorType", laid_errors_errorType)] }
def TreeAllSaid : Prop := treeAllRow.holds Tryd.pinned (OpenSpec.ofChange treeAllSpec)

/-- ITS FALSE NEIGHBOUR: 'it returns false'. Refute it at one input. -/
def treeAllWrong : ChangeSpec := { name := "treeAll", fn := fun _ => fun
  | [d1, d2] => { results := [.lit (.bool false)], args := [d1, d2] }
  | _ => none }
def TreeAllWrongFalsely : Prop := treeAllRow.holds Tryd.pinned (OpenSpec.ofChange treeAllWrong)

/-- 'noonlaw4.ClockWidens': WHATEVER THE INPUT: true; the input reads as it did. -/
def clockWidensSpec : ChangeSpec := { name := "clockWidens", fn := fun _ => fun
  | [d1, d2, d3, d4] => { results := [.lit (.bool true)], args := [d1, d2, d3, d4] }
  | _ => none }
def clockWidensRow : OpenClaim := { program := "ytkejdfpdehchcaadoor", sum := "1e070182fdc28047bf8bd2759eeda549b72760e3c4e19c1b7d8f409d670aaaab", func := "noonmark/noonlaw4.ClockWidens", spec := "clockWidens", inPlace := ["internal/reflectlite.ValueOf", "(internal/reflectlite.Value).Type", "(internal/reflectlite.Value).IsNil", "internal/reflectlite.TypeOf", "(internal/reflectlite.Value).Elem", "(internal/reflectlite.Value).Set"], unfollowed := true, recurses := true, named := ["errors.errorType"], apart := false, laid := [("errors.errorType", laid_errors_errorType)] }
def ClockWidensSaid : Prop := clockWidensRow.holds Tryd.pinned (OpenSpec.ofChange clockWidensSpec)

/-- ITS FALSE NEIGHBOUR: 'it returns false'. Refute it at one input. -/
def clockWidensWrong : ChangeSpec := { name := "clockWidens", fn := fun _ => fun
  | [d1, d2, d3, d4] => { results := [.lit (.bool false)], args := [d1, d2, d3, d4] }
  | _ => none }
def ClockWidensWrongFalsely : Prop := clockWidensRow.holds Tryd.pinned (OpenSpec.ofChange clockWidensWrong)

/-- 'noonlaw2.WaitOver': WHATEVER THE INPUT: true; the input reads as it did. -/
def waitOverSpec : ChangeSpec := { name := "waitOver", fn := fun _ => fun
  | [d1, d2, d3, d4] => { results := [.lit (.bool true)], args := [d1, d2, d3, d4] }
  | _ => none }
def waitOverRow : OpenClaim := { program := "ytkejdfpdehchcaadoor", sum := "1e070182fdc28047bf8bd2759eeda549b72760e3c4e19c1b7d8f409d670aaaab", func := "noonmark/noonlaw2.WaitOver", spec := "waitOver", inPlace := ["internal/reflectlite.ValueOf", "(internal/reflectlite.Value).Type", "(internal/reflectlite.Value).IsNil", "internal/reflectlite.TypeOf", "(internal/reflectlite.Value).Elem", "(internal/reflectlite.Value).Set"], unfollowed := true, recurses := true, named := ["errors.errorType"], apart := false, laid := [("errors.errorType", laid_errors_errorType)] }
def WaitOverSaid : Prop := waitOverRow.holds Tryd.pinned (OpenSpec.ofChange waitOverSpec)

/-- ITS FALSE NEIGHBOUR: 'it returns false'. Refute it at one input. -/
def waitOverWrong : ChangeSpec := { name := "waitOver", fn := fun _ => fun
  | [d1, d2, d3, d4] => { results := [.lit (.bool false)], args := [d1, d2, d3, d4] }
  | _ => none }
def WaitOverWrongFalsely : Prop := waitOverRow.holds Tryd.pinned (OpenSpec.ofChange waitOverWrong)

/-- 'noonlaw4.WorldUnder': WHATEVER THE INPUT: true; the input reads as it did. -/
def worldUnderSpec : ChangeSpec := { name := "worldUnder", fn := fun _ => fun
  | [d1, d2] => { results := [.lit (.bool true)], args := [d1, d2] }
  | _ => none }
def worldUnderRow : OpenClaim := { program := "ytkejdfpdehchcaadoor", sum := "1e070182fdc28047bf8bd2759eeda549b72760e3c4e19c1b7d8f409d670aaaab", func := "noonmark/noonlaw4.WorldUnder", spec := "worldUnder", inPlace := ["internal/reflectlite.ValueOf", "(internal/reflectlite.Value).Type", "(internal/reflectlite.Value).IsNil", "internal/reflectlite.TypeOf", "(internal/reflectlite.Value).Elem", "(internal/reflectlite.Value).Set"], unfollowed := true, recurses := true, named := ["errors.errorType"], apart := false, laid := [("errors.errorType", laid_errors_errorType)] }
def WorldUnderSaid : Prop := worldUnderRow.holds Tryd.pinned (OpenSpec.ofChange worldUnderSpec)

/-- ITS FALSE NEIGHBOUR: 'it returns false'. Refute it at one input. -/
def worldUnderWrong : ChangeSpec := { name := "worldUnder", fn := fun _ => fun
  | [d1, d2] => { results := [.lit (.bool false)], args := [d1, d2] }
  | _ => none }
def WorldUnderWrongFalsely : Prop := worldUnderRow.holds Tryd.pinned (OpenSpec.ofChange worldUnderWrong)

/-- 'noonlaw2.ClockPlays': WHATEVER THE INPUT: true; the input reads as it did. -/
def clockPlaysSpec : ChangeSpec := { name := "clockPlays", fn := fun _ => fun
  | [d1, d2] => { results := [.lit (.bool true)], args := [d1, d2] }
  | _ => none }
def clockPlaysRow : OpenClaim := { program := "ytkejdfpdehchcaadoor", sum := "1e070182fdc28047bf8bd2759eeda549b72760e3c4e19c1b7d8f409d670aaaab", func := "noonmark/noonlaw2.ClockPlays", spec := "clockPlays", inPlace := ["internal/reflectlite.ValueOf", "(internal/reflectlite.Value).Type", "(internal/reflectlite.Value).IsNil", "internal/reflectlite.TypeOf", "(internal/reflectlite.Value).Elem", "(internal/reflectlite.Value).Set"], unfollowed := true, recurses := true, named := ["errors.errorType"], apart := false, laid := [("errors.errorType", laid_errors_errorType)] }
def ClockPlaysSaid : Prop := clockPlaysRow.holds Tryd.pinned (OpenSpec.ofChange clockPlaysSpec)

/-- ITS FALSE NEIGHBOUR: 'it returns false'. Refute it at one input. -/
def clockPlaysWrong : ChangeSpec := { name := "clockPlays", fn := fun _ => fun
  | [d1, d2] => { results := [.lit (.bool false)], args := [d1, d2] }
  | _ => none }
def ClockPlaysWrongFalsely : Prop := clockPlaysRow.holds Tryd.pinned (OpenSpec.ofChange clockPlaysWrong)

/-- 'noonlaw2.ClockHolds': WHATEVER THE INPUT: true; the input reads as it did. -/
def clockHoldsSpec : ChangeSpec := { name := "clockHolds", fn := fun _ => fun
  | [d1, d2, d3, d4] => { results := [.lit (.bool true)], args := [d1, d2, d3, d4] }
  | _ => none }
def clockHoldsRow : OpenClaim := { program := "ytkejdfpdehchcaadoor", sum := "1e070182fdc28047bf8bd2759eeda549b72760e3c4e19c1b7d8f409d670aaaab", func := "noonmark/noonlaw2.ClockHolds", spec := "clockHolds", inPlace := ["internal/reflectlite.ValueOf", "(internal/reflectlite.Value).Type", "(internal/reflectlite.Value).IsNil", "internal/reflectlite.TypeOf", "(internal/reflectlite.Value).Elem", "(internal/reflectlite.Value).Set"], unfollowed := true, recurses := true, named := ["errors.errorType"], apart := false, laid := [("errors.errorType", laid_errors_errorType)] }
def ClockHoldsSaid : Prop := clockHoldsRow.holds Tryd.pinned (OpenSpec.ofChange clockHoldsSpec)

/-- ITS FALSE NEIGHBOUR: 'it returns false'. Refute it at one input. -/
def clockHoldsWrong : ChangeSpec := { name := "clockHolds", fn := fun _ => fun
  | [d1, d2, d3, d4] => { results := [.lit (.bool false)], args := [d1, d2, d3, d4] }
  | _ => none }
def ClockHoldsWrongFalsely : Prop := clockHoldsRow.holds Tryd.pinned (OpenSpec.ofChange clockHoldsWrong)

/-- 'noonlaw3.WireTells': WHATEVER THE INPUT: true; the input reads as it did. -/
def wireTellsSpec : ChangeSpec := { name := "wireTells", fn := fun _ => fun
  | [d1, d2, d3, d4] => { results := [.lit (.bool true)], args := [d1, d2, d3, d4] }
  | _ => none }
def wireTellsRow : OpenClaim := { program := "ytkejdfpdehchcaadoor", sum := "1e070182fdc28047bf8bd2759eeda549b72760e3c4e19c1b7d8f409d670aaaab", func := "noonmark/noonlaw3.WireTells", spec := "wireTells", inPlace := ["internal/reflectlite.ValueOf", "(internal/reflectlite.Value).Type", "(internal/reflectlite.Value).IsNil", "internal/reflectlite.TypeOf", "(internal/reflectlite.Value).Elem", "(internal/reflectlite.Value).Set"], unfollowed := true, recurses := true, named := ["errors.errorType"], apart := false, laid := [("errors.errorType", laid_errors_errorType)] }
def WireTellsSaid : Prop := wireTellsRow.holds Tryd.pinned (OpenSpec.ofChange wireTellsSpec)

/-- ITS FALSE NEIGHBOUR: 'it returns false'. Refute it at one input. -/
def wireTellsWrong : ChangeSpec := { name := "wireTells", fn := fun _ => fun
  | [d1, d2, d3, d4] => { results := [.lit (.bool false)], args := [d1, d2, d3, d4] }
  | _ => none }
def WireTellsWrongFalsely : Prop := wireTellsRow.holds Tryd.pinned (OpenSpec.ofChange wireTellsWrong)

/-- 'noonlaw1.TreeTells': WHATEVER THE INPUT: true; the input reads as it did. -/
def treeTellsSpec : ChangeSpec := { name := "treeTells", fn := fun _ => fun
  | [d1, d2, d3] => { results := [.lit (.bool true)], args := [d1, d2, d3] }
  | _ => none }
def treeTellsRow : OpenClaim := { program := "ytkejdfpdehchcaadoor", sum := "1e070182fdc28047bf8bd2759eeda549b72760e3c4e19c1b7d8f409d670aaaab", func := "noonmark/noonlaw1.TreeTells", spec := "treeTells", inPlace := ["internal/reflectlite.ValueOf", "(internal/reflectlite.Value).Type", "(internal/reflectlite.Value).IsNil", "internal/reflectlite.TypeOf", "(internal/reflectlite.Value).Elem", "(internal/reflectlite.Value).Set"], unfollowed := true, recurses := true, named := ["errors.errorType"], apart := false, laid := [("errors.errorType", laid_errors_errorType)] }
def TreeTellsSaid : Prop := treeTellsRow.holds Tryd.pinned (OpenSpec.ofChange treeTellsSpec)

/-- ITS FALSE NEIGHBOUR: 'it returns false'. Refute it at one input. -/
def treeTellsWrong : ChangeSpec := { name := "treeTells", fn := fun _ => fun
  | [d1, d2, d3] => { results := [.lit (.bool false)], args := [d1, d2, d3] }
  | _ => none }
def TreeTellsWrongFalsely : Prop := treeTellsRow.holds Tryd.pinned (OpenSpec.ofChange treeTellsWrong)

/-- 'noonlaw4.NodeLearns': WHATEVER THE INPUT: true; the input reads as it did. -/
def nodeLearnsSpec : ChangeSpec := { name := "nodeLearns", fn := fun _ => fun
  | [d1, d2, d3, d4] => { results := [.lit (.bool true)], args := [d1, d2, d3, d4] }
  | _ => none }
def nodeLearnsRow : OpenClaim := { program := "ytkejdfpdehchcaadoor", sum := "1e070182fdc28047bf8bd2759eeda549b72760e3c4e19c1b7d8f409d670aaaab", func := "noonmark/noonlaw4.NodeLearns", spec := "nodeLearns", inPlace := ["internal/reflectlite.ValueOf", "(internal/reflectlite.Value).Type", "(internal/reflectlite.Value).IsNil", "internal/reflectlite.TypeOf", "(internal/reflectlite.Value).Elem", "(internal/reflectlite.Value).Set"], unfollowed := true, recurses := true, named := ["errors.errorType"], apart := false, laid := [("errors.errorType", laid_errors_errorType)] }
def NodeLearnsSaid : Prop := nodeLearnsRow.holds Tryd.pinned (OpenSpec.ofChange nodeLearnsSpec)

/-- ITS FALSE NEIGHBOUR: 'it returns false'. Refute it at one input. -/
def nodeLearnsWrong : ChangeSpec := { name := "nodeLearns", fn := fun _ => fun
  | [d1, d2, d3, d4] => { results := [.lit (.bool false)], args := [d1, d2, d3, d4] }
  | _ => none }
def NodeLearnsWrongFalsely : Prop := nodeLearnsRow.holds Tryd.pinned (OpenSpec.ofChange nodeLearnsWrong)

/-- 'noonlaw2.WorldPlays': WHATEVER THE INPUT: true; the input reads as it did. -/
def worldPlaysSpec : ChangeSpec := { name := "worldPlays", fn := fun _ => fun
  | [d1, d2, d3, d4, d5, d6] => { results := [.lit (.bool true)], args := [d1, d2, d3, d4, d5, d6] }
  | _ => none }
def worldPlaysRow : OpenClaim := { program := "ytkejdfpdehchcaadoor", sum := "1e070182fdc28047bf8bd2759eeda549b72760e3c4e19c1b7d8f409d670aaaab", func := "noonmark/noonlaw2.WorldPlays", spec := "worldPlays", inPlace := ["internal/reflectlite.ValueOf", "(internal/reflectlite.Value).Type", "(internal/reflectlite.Value).IsNil", "internal/reflectlite.TypeOf", "(internal/reflectlite.Value).Elem", "(internal/reflectlite.Value).Set"], unfollowed := true, recurses := true, named := ["errors.errorType"], apart := false, laid := [("errors.errorType", laid_errors_errorType)] }
def WorldPlaysSaid : Prop := worldPlaysRow.holds Tryd.pinned (OpenSpec.ofChange worldPlaysSpec)

/-- ITS FALSE NEIGHBOUR: 'it returns false'. Refute it at one input. -/
def worldPlaysWrong : ChangeSpec := { name := "worldPlays", fn := fun _ => fun
  | [d1, d2, d3, d4, d5, d6] => { results := [.lit (.bool false)], args := [d1, d2, d3, d4, d5, d6] }
  | _ => none }
def WorldPlaysWrongFalsely : Prop := worldPlaysRow.holds Tryd.pinned (OpenSpec.ofChange worldPlaysWrong)

/- THE SECOND FORM. 'bulk': how many values and letters a reading holds, each counted each time it is reached (what is shared counts as often as it is met; a slice's spare places count too). A statement '..UptoSaid' is the law's where the arguments, and the package variables that the reading takes, are together of bulk at most 1048576: NARROWER than '..Said'. Prove '..Said' where nothing that the law and all that it calls make is longer than what came in: it says more and counts as full. Else prove '..UptoSaid'. A law counts once. -/
mutual
def uptoBulk {H : Type} : DataW H → Nat
  | .lit (.string bytes) => bytes.length + 1
  | .lit _ => 1
  | .nil => 1
  | .ptr d => uptoBulk d + 1
  | .slice elems spare => uptoBulkAll elems + uptoBulkAll spare + 1
  | .agg parts => uptoBulkAll parts + 1
  | .iface _ d => uptoBulk d + 1
  | .map entries => uptoBulkEntries entries + 1
  | .held _ => 1
def uptoBulkAll {H : Type} : List (DataW H) → Nat
  | [] => 0
  | d :: r => uptoBulk d + uptoBulkAll r
def uptoBulkEntries {H : Type} : List (Lit × DataW H) → Nat
  | [] => 0
  | x :: r => uptoBulkEntry x + uptoBulkEntries r
def uptoBulkEntry {H : Type} : Lit × DataW H → Nat
  | (.string bytes, d) => bytes.length + uptoBulk d + 1
  | (_, d) => uptoBulk d + 1
 end
def uptoSmall : (H : Type) → List (DataW H) → Bool := fun _ ds => decide (uptoBulkAll ds ≤ 1048576)
def OpenSpec.upto (s : _root_.Go.ChangeSpec) : _root_.Go.OpenSpec := { _root_.Go.OpenSpec.ofChange s with cond := some uptoSmall }

/-- 'noonlaw3.KeeperPlays', WHERE WHAT IT READS IS OF BULK AT MOST 1048576: true; the input reads as it did. -/
def keeperPlaysUptoRow : OpenClaim := { program := "ytkejdfpdehchcaadoor", sum := "1e070182fdc28047bf8bd2759eeda549b72760e3c4e19c1b7d8f409d670aaaab", func := "noonmark/noonlaw3.KeeperPlays", spec := "keeperPlays", inPlace := ["internal/reflectlite.ValueOf", "(internal/reflectlite.Value).Type", "(internal/reflectlite.Value).IsNil", "internal/reflectlite.TypeOf", "(internal/reflectlite.Value).Elem", "(internal/reflectlite.Value).Set"], unfollowed := true, recurses := true, named := ["errors.errorType"], apart := false, laid := [("errors.errorType", laid_errors_errorType)], narrowed := true }
def KeeperPlaysUptoSaid : Prop := keeperPlaysUptoRow.holds Tryd.pinned (OpenSpec.upto keeperPlaysSpec)

/-- 'noonlaw2.WaitTells', WHERE WHAT IT READS IS OF BULK AT MOST 1048576: true; the input reads as it did. -/
def waitTellsUptoRow : OpenClaim := { program := "ytkejdfpdehchcaadoor", sum := "1e070182fdc28047bf8bd2759eeda549b72760e3c4e19c1b7d8f409d670aaaab", func := "noonmark/noonlaw2.WaitTells", spec := "waitTells", inPlace := ["internal/reflectlite.ValueOf", "(internal/reflectlite.Value).Type", "(internal/reflectlite.Value).IsNil", "internal/reflectlite.TypeOf", "(internal/reflectlite.Value).Elem", "(internal/reflectlite.Value).Set"], unfollowed := true, recurses := true, named := ["errors.errorType"], apart := false, laid := [("errors.errorType", laid_errors_errorType)], narrowed := true }
def WaitTellsUptoSaid : Prop := waitTellsUptoRow.holds Tryd.pinned (OpenSpec.upto waitTellsSpec)

/-- 'noonlaw4.TreeAll', WHERE WHAT IT READS IS OF BULK AT MOST 1048576: true; the input reads as it did. -/
def treeAllUptoRow : OpenClaim := { program := "ytkejdfpdehchcaadoor", sum := "1e070182fdc28047bf8bd2759eeda549b72760e3c4e19c1b7d8f409d670aaaab", func := "noonmark/noonlaw4.TreeAll", spec := "treeAll", inPlace := ["internal/reflectlite.ValueOf", "(internal/reflectlite.Value).Type", "(internal/reflectlite.Value).IsNil", "internal/reflectlite.TypeOf", "(internal/reflectlite.Value).Elem", "(internal/reflectlite.Value).Set"], unfollowed := true, recurses := true, named := ["errors.errorType"], apart := false, laid := [("errors.errorType", laid_errors_errorType)], narrowed := true }
def TreeAllUptoSaid : Prop := treeAllUptoRow.holds Tryd.pinned (OpenSpec.upto treeAllSpec)

/-- 'noonlaw4.ClockWidens', WHERE WHAT IT READS IS OF BULK AT MOST 1048576: true; the input reads as it did. -/
def clockWidensUptoRow : OpenClaim := { program := "ytkejdfpdehchcaadoor", sum := "1e070182fdc28047bf8bd2759eeda549b72760e3c4e19c1b7d8f409d670aaaab", func := "noonmark/noonlaw4.ClockWidens", spec := "clockWidens", inPlace := ["internal/reflectlite.ValueOf", "(internal/reflectlite.Value).Type", "(internal/reflectlite.Value).IsNil", "internal/reflectlite.TypeOf", "(internal/reflectlite.Value).Elem", "(internal/reflectlite.Value).Set"], unfollowed := true, recurses := true, named := ["errors.errorType"], apart := false, laid := [("errors.errorType", laid_errors_errorType)], narrowed := true }
def ClockWidensUptoSaid : Prop := clockWidensUptoRow.holds Tryd.pinned (OpenSpec.upto clockWidensSpec)

/-- 'noonlaw2.WaitOver', WHERE WHAT IT READS IS OF BULK AT MOST 1048576: true; the input reads as it did. -/
def waitOverUptoRow : OpenClaim := { program := "ytkejdfpdehchcaadoor", sum := "1e070182fdc28047bf8bd2759eeda549b72760e3c4e19c1b7d8f409d670aaaab", func := "noonmark/noonlaw2.WaitOver", spec := "waitOver", inPlace := ["internal/reflectlite.ValueOf", "(internal/reflectlite.Value).Type", "(internal/reflectlite.Value).IsNil", "internal/reflectlite.TypeOf", "(internal/reflectlite.Value).Elem", "(internal/reflectlite.Value).Set"], unfollowed := true, recurses := true, named := ["errors.errorType"], apart := false, laid := [("errors.errorType", laid_errors_errorType)], narrowed := true }
def WaitOverUptoSaid : Prop := waitOverUptoRow.holds Tryd.pinned (OpenSpec.upto waitOverSpec)

/-- 'noonlaw4.WorldUnder', WHERE WHAT IT READS IS OF BULK AT MOST 1048576: true; the input reads as it did. -/
def worldUnderUptoRow : OpenClaim := { program := "ytkejdfpdehchcaadoor", sum := "1e070182fdc28047bf8bd2759eeda549b72760e3c4e19c1b7d8f409d670aaaab", func := "noonmark/noonlaw4.WorldUnder", spec := "worldUnder", inPlace := ["internal/reflectlite.ValueOf", "(internal/reflectlite.Value).Type", "(internal/reflectlite.Value).IsNil", "internal/reflectlite.TypeOf", "(internal/reflectlite.Value).Elem", "(internal/reflectlite.Value).Set"], unfollowed := true, recurses := true, named := ["errors.errorType"], apart := false, laid := [("errors.errorType", laid_errors_errorType)], narrowed := true }
def WorldUnderUptoSaid : Prop := worldUnderUptoRow.holds Tryd.pinned (OpenSpec.upto worldUnderSpec)

/-- 'noonlaw2.ClockPlays', WHERE WHAT IT READS IS OF BULK AT MOST 1048576: true; the input reads as it did. -/
def clockPlaysUptoRow : OpenClaim := { program := "ytkejdfpdehchcaadoor", sum := "1e070182fdc28047bf8bd2759eeda549b72760e3c4e19c1b7d8f409d670aaaab", func := "noonmark/noonlaw2.ClockPlays", spec := "clockPlays", inPlace := ["internal/reflectlite.ValueOf", "(internal/reflectlite.Value).Type", "(internal/reflectlite.Value).IsNil", "internal/reflectlite.TypeOf", "(internal/reflectlite.Value).Elem", "(internal/reflectlite.Value).Set"], unfollowed := true, recurses := true, named := ["errors.errorType"], apart := false, laid := [("errors.errorType", laid_errors_errorType)], narrowed := true }
def ClockPlaysUptoSaid : Prop := clockPlaysUptoRow.holds Tryd.pinned (OpenSpec.upto clockPlaysSpec)

/-- 'noonlaw2.ClockHolds', WHERE WHAT IT READS IS OF BULK AT MOST 1048576: true; the input reads as it did. -/
def clockHoldsUptoRow : OpenClaim := { program := "ytkejdfpdehchcaadoor", sum := "1e070182fdc28047bf8bd2759eeda549b72760e3c4e19c1b7d8f409d670aaaab", func := "noonmark/noonlaw2.ClockHolds", spec := "clockHolds", inPlace := ["internal/reflectlite.ValueOf", "(internal/reflectlite.Value).Type", "(internal/reflectlite.Value).IsNil", "internal/reflectlite.TypeOf", "(internal/reflectlite.Value).Elem", "(internal/reflectlite.Value).Set"], unfollowed := true, recurses := true, named := ["errors.errorType"], apart := false, laid := [("errors.errorType", laid_errors_errorType)], narrowed := true }
def ClockHoldsUptoSaid : Prop := clockHoldsUptoRow.holds Tryd.pinned (OpenSpec.upto clockHoldsSpec)

/-- 'noonlaw3.WireTells', WHERE WHAT IT READS IS OF BULK AT MOST 1048576: true; the input reads as it did. -/
def wireTellsUptoRow : OpenClaim := { program := "ytkejdfpdehchcaadoor", sum := "1e070182fdc28047bf8bd2759eeda549b72760e3c4e19c1b7d8f409d670aaaab", func := "noonmark/noonlaw3.WireTells", spec := "wireTells", inPlace := ["internal/reflectlite.ValueOf", "(internal/reflectlite.Value).Type", "(internal/reflectlite.Value).IsNil", "internal/reflectlite.TypeOf", "(internal/reflectlite.Value).Elem", "(internal/reflectlite.Value).Set"], unfollowed := true, recurses := true, named := ["errors.errorType"], apart := false, laid := [("errors.errorType", laid_errors_errorType)], narrowed := true }
def WireTellsUptoSaid : Prop := wireTellsUptoRow.holds Tryd.pinned (OpenSpec.upto wireTellsSpec)

/-- 'noonlaw1.TreeTells', WHERE WHAT IT READS IS OF BULK AT MOST 1048576: true; the input reads as it did. -/
def treeTellsUptoRow : OpenClaim := { program := "ytkejdfpdehchcaadoor", sum := "1e070182fdc28047bf8bd2759eeda549b72760e3c4e19c1b7d8f409d670aaaab", func := "noonmark/noonlaw1.TreeTells", spec := "treeTells", inPlace := ["internal/reflectlite.ValueOf", "(internal/reflectlite.Value).Type", "(internal/reflectlite.Value).IsNil", "internal/reflectlite.TypeOf", "(internal/reflectlite.Value).Elem", "(internal/reflectlite.Value).Set"], unfollowed := true, recurses := true, named := ["errors.errorType"], apart := false, laid := [("errors.errorType", laid_errors_errorType)], narrowed := true }
def TreeTellsUptoSaid : Prop := treeTellsUptoRow.holds Tryd.pinned (OpenSpec.upto treeTellsSpec)

/-- 'noonlaw4.NodeLearns', WHERE WHAT IT READS IS OF BULK AT MOST 1048576: true; the input reads as it did. -/
def nodeLearnsUptoRow : OpenClaim := { program := "ytkejdfpdehchcaadoor", sum := "1e070182fdc28047bf8bd2759eeda549b72760e3c4e19c1b7d8f409d670aaaab", func := "noonmark/noonlaw4.NodeLearns", spec := "nodeLearns", inPlace := ["internal/reflectlite.ValueOf", "(internal/reflectlite.Value).Type", "(internal/reflectlite.Value).IsNil", "internal/reflectlite.TypeOf", "(internal/reflectlite.Value).Elem", "(internal/reflectlite.Value).Set"], unfollowed := true, recurses := true, named := ["errors.errorType"], apart := false, laid := [("errors.errorType", laid_errors_errorType)], narrowed := true }
def NodeLearnsUptoSaid : Prop := nodeLearnsUptoRow.holds Tryd.pinned (OpenSpec.upto nodeLearnsSpec)

/-- 'noonlaw2.WorldPlays', WHERE WHAT IT READS IS OF BULK AT MOST 1048576: true; the input reads as it did. -/
def worldPlaysUptoRow : OpenClaim := { program := "ytkejdfpdehchcaadoor", sum := "1e070182fdc28047bf8bd2759eeda549b72760e3c4e19c1b7d8f409d670aaaab", func := "noonmark/noonlaw2.WorldPlays", spec := "worldPlays", inPlace := ["internal/reflectlite.ValueOf", "(internal/reflectlite.Value).Type", "(internal/reflectlite.Value).IsNil", "internal/reflectlite.TypeOf", "(internal/reflectlite.Value).Elem", "(internal/reflectlite.Value).Set"], unfollowed := true, recurses := true, named := ["errors.errorType"], apart := false, laid := [("errors.errorType", laid_errors_errorType)], narrowed := true }
def WorldPlaysUptoSaid : Prop := worldPlaysUptoRow.holds Tryd.pinned (OpenSpec.upto worldPlaysSpec)

end Rows
end Go.Proofs.YtkejdfpdehchcaaDoor
