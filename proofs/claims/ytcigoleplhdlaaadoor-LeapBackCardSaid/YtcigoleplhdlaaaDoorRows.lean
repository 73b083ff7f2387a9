/-
  NARROWER THAN 'FOR EVERY INPUT', by the rows' own cells (each row's printed sentence says how): CivilWeeks: laid · CivilNext: laid · LeapNone: laid · LeapBack: laid · CivilTells: laid · LeapTells: laid.
  DERIVED. THE GIVEN ROWS OF THIS SEAT. 6 by the template 'for every input the law returns true; each argument reads behind the call as it read before'; 0 by the template 'total and deterministic' (their statements: YtcigoleplhdlaaaDoorTotals.lean).
  GIVEN WITH THE SEED: the statements are not yours to turn. If you find one false, say at which input.
  Laid BY PROGRAM, IN A SANDBOX (cutbox-rows.mjs): the forced cells as the released guide's own fill.sh prints them over the translation bf5f4a093e612ba0… (all of the seat's roots in one cut). By AI agents, Wed Nov 11 2026. No macro, syntax, notation, axiom, sorry.
-/
import Derived.Test.YtcigoleplhdlaaaDoorChecked
import GoSem.Claim
import GoSem.ClaimJoined
import GoSem.ClaimMapViews
import Derived.JoinedTies
import Derived.KernelRfl
namespace Go.Proofs.YtcigoleplhdlaaaDoor
/- THE CELL 'sum', in the pinned program and in every row, IS THE sha256 OF THE DUMP (.gsa) THAT YtcigoleplhdlaaaDoorProg.lean LOADS. Nothing in Lean hashes anything: it is a label: what it is worth is what the hold of that sum in a sandbox is worth. -/
noncomputable def Tryd.pinned : Pinned := { name := "ytcigoleplhdlaaadoor", sum := "bf5f4a093e612ba07067c5a39dff42bd09b05f42915cbd5a0cc292068f6586f1", checked := Tryd.checked }
namespace Rows
def none {H : Type} : Left H := { results := [], args := [] }

/- WHAT THE LISTED PACKAGE-LEVEL VARIABLES READ AS WHEN THE CALL BEGINS. Each datum BY PROGRAM (the guide's laid-datum.mjs) off the statement by which the dump's own 'gosem.cut.vars' lays the variable. In a bare row this is a premise. The card (YtcigoleplhdlaaaDoorCards.lean) ties it to the program's text. -/
def laid_noonmark_civil_before {H : Type} : DataW H := .agg [.lit (.int .i64 0), .lit (.int .i64 31), .lit (.int .i64 59), .lit (.int .i64 90), .lit (.int .i64 120), .lit (.int .i64 151), .lit (.int .i64 181), .lit (.int .i64 212), .lit (.int .i64 243), .lit (.int .i64 273), .lit (.int .i64 304), .lit (.int .i64 334), .lit (.int .i64 365)]
def laid_errors_errorType {H : Type} : DataW H := .iface "internal/reflectlite.rtype" (.agg [.ptr (.lit (.string [101, 114, 114, 111, 114]))])

/-- 'noonlaw4.CivilWeeks': WHATEVER THE INPUT: true; the input reads as it did. -/
def civilWeeksSpec : ChangeSpec := { name := "civilWeeks", fn := fun _ => fun
  | [d] => { results := [.lit (.bool true)], args := [d] }
  | _ => none }
def civilWeeksRow : OpenClaim := { program := "ytcigoleplhdlaaadoor", sum := "bf5f4a093e612ba07067c5a39dff42bd09b05f42915cbd5a0cc292068f6586f1", func := "noonmark/noonlaw4.CivilWeeks", spec := "civilWeeks", named := ["noonmark/civil.before"], apart := false, laid := [("noonmark/civil.before", laid_noonmark_civil_before)] }
def CivilWeeksSaid : Prop := civilWeeksRow.holds Tryd.pinned (OpenSpec.ofChange civilWeeksSpec)

/-- ITS FALSE NEIGHBOUR: 'it returns false'. Refute it at one input. -/
def civilWeeksWrong : ChangeSpec := { name := "civilWeeks", fn := fun _ => fun
  | [d] => { results := [.lit (.bool false)], args := [d] }
  | _ => none }
def CivilWeeksWrongFalsely : Prop := civilWeeksRow.holds Tryd.pinned (OpenSpec.ofChange civilWeeksWrong)

/-- 'noonlaw1.CivilNext': WHATEVER THE INPUT: true; the input reads as it did. -/
def civilNextSpec : ChangeSpec := { name := "civilNext", fn := fun _ => fun
  | [d1, d2] => { results := [.lit (.bool true)], args := [d1, d2] }
  | _ => none }
def civilNextRow : OpenClaim := { program := "ytcigoleplhdlaaadoor", sum := "bf5f4a093e612ba07067c5a39dff42bd09b05f42915cbd5a0cc292068f6586f1", func := "noonmark/noonlaw1.CivilNext", spec := "civilNext", named := ["noonmark/civil.before"], apart := false, laid := [("noonmark/civil.before", laid_noonmark_civil_before)] }
def CivilNextSaid : Prop := civilNextRow.holds Tryd.pinned (OpenSpec.ofChange civilNextSpec)

/-- ITS FALSE NEIGHBOUR: 'it returns false'. Refute it at one input. -/
def civilNextWrong : ChangeSpec := { name := "civilNext", fn := fun _ => fun
  | [d1, d2] => { results := [.lit (.bool false)], args := [d1, d2] }
  | _ => none }
def CivilNextWrongFalsely : Prop := civilNextRow.holds Tryd.pinned (OpenSpec.ofChange civilNextWrong)

/-- 'noonlaw4.LeapNone': WHATEVER THE INPUT: true; the input reads as it did. -/
def leapNoneSpec : ChangeSpec := { name := "leapNone", fn := fun _ => fun
  | [d] => { results := [.lit (.bool true)], args := [d] }
  | _ => none }
def leapNoneRow : OpenClaim := { program := "ytcigoleplhdlaaadoor", sum := "bf5f4a093e612ba07067c5a39dff42bd09b05f42915cbd5a0cc292068f6586f1", func := "noonmark/noonlaw4.LeapNone", spec := "leapNone", named := ["noonmark/civil.before"], apart := false, laid := [("noonmark/civil.before", laid_noonmark_civil_before)] }
def LeapNoneSaid : Prop := leapNoneRow.holds Tryd.pinned (OpenSpec.ofChange leapNoneSpec)

/-- ITS FALSE NEIGHBOUR: 'it returns false'. Refute it at one input. -/
def leapNoneWrong : ChangeSpec := { name := "leapNone", fn := fun _ => fun
  | [d] => { results := [.lit (.bool false)], args := [d] }
  | _ => none }
def LeapNoneWrongFalsely : Prop := leapNoneRow.holds Tryd.pinned (OpenSpec.ofChange leapNoneWrong)

/-- 'noonlaw1.LeapBack': WHATEVER THE INPUT: true; the input reads as it did. -/
def leapBackSpec : ChangeSpec := { name := "leapBack", fn := fun _ => fun
  | [d1, d2, d3, d4] => { results := [.lit (.bool true)], args := [d1, d2, d3, d4] }
  | _ => none }
def leapBackRow : OpenClaim := { program := "ytcigoleplhdlaaadoor", sum := "bf5f4a093e612ba07067c5a39dff42bd09b05f42915cbd5a0cc292068f6586f1", func := "noonmark/noonlaw1.LeapBack", spec := "leapBack", named := ["noonmark/civil.before"], apart := false, laid := [("noonmark/civil.before", laid_noonmark_civil_before)] }
def LeapBackSaid : Prop := leapBackRow.holds Tryd.pinned (OpenSpec.ofChange leapBackSpec)

/-- ITS FALSE NEIGHBOUR: 'it returns false'. Refute it at one input. -/
def leapBackWrong : ChangeSpec := { name := "leapBack", fn := fun _ => fun
  | [d1, d2, d3, d4] => { results := [.lit (.bool false)], args := [d1, d2, d3, d4] }
  | _ => none }
def LeapBackWrongFalsely : Prop := leapBackRow.holds Tryd.pinned (OpenSpec.ofChange leapBackWrong)

/-- 'noonlaw1.CivilTells': WHATEVER THE INPUT: true; the input reads as it did. -/
def civilTellsSpec : ChangeSpec := { name := "civilTells", fn := fun _ => fun
  | [d1, d2, d3, d4, d5] => { results := [.lit (.bool true)], args := [d1, d2, d3, d4, d5] }
  | _ => none }
def civilTellsRow : OpenClaim := { program := "ytcigoleplhdlaaadoor", sum := "bf5f4a093e612ba07067c5a39dff42bd09b05f42915cbd5a0cc292068f6586f1", func := "noonmark/noonlaw1.CivilTells", spec := "civilTells", inPlace := ["internal/reflectlite.ValueOf", "(internal/reflectlite.Value).Type", "(internal/reflectlite.Value).IsNil", "internal/reflectlite.TypeOf", "(internal/reflectlite.Value).Elem", "(internal/reflectlite.Value).Set"], unfollowed := true, recurses := true, named := ["noonmark/civil.before", "errors.errorType"], apart := false, laid := [("noonmark/civil.before", laid_noonmark_civil_before), ("errors.errorType", laid_errors_errorType)] }
def CivilTellsSaid : Prop := civilTellsRow.holds Tryd.pinned (OpenSpec.ofChange civilTellsSpec)

/-- ITS FALSE NEIGHBOUR: 'it returns false'. Refute it at one input. -/
def civilTellsWrong : ChangeSpec := { name := "civilTells", fn := fun _ => fun
  | [d1, d2, d3, d4, d5] => { results := [.lit (.bool false)], args := [d1, d2, d3, d4, d5] }
  | _ => none }
def CivilTellsWrongFalsely : Prop := civilTellsRow.holds Tryd.pinned (OpenSpec.ofChange civilTellsWrong)

/-- 'noonlaw1.LeapTells': WHATEVER THE INPUT: true; the input reads as it did. -/
def leapTellsSpec : ChangeSpec := { name := "leapTells", fn := fun _ => fun
  | [d1, d2, d3, d4] => { results := [.lit (.bool true)], args := [d1, d2, d3, d4] }
  | _ => none }
def leapTellsRow : OpenClaim := { program := "ytcigoleplhdlaaadoor", sum := "bf5f4a093e612ba07067c5a39dff42bd09b05f42915cbd5a0cc292068f6586f1", func := "noonmark/noonlaw1.LeapTells", spec := "leapTells", inPlace := ["internal/reflectlite.ValueOf", "(internal/reflectlite.Value).Type", "(internal/reflectlite.Value).IsNil", "internal/reflectlite.TypeOf", "(internal/reflectlite.Value).Elem", "(internal/reflectlite.Value).Set"], unfollowed := true, recurses := true, named := ["errors.errorType", "noonmark/civil.before"], apart := false, laid := [("noonmark/civil.before", laid_noonmark_civil_before), ("errors.errorType", laid_errors_errorType)] }
def LeapTellsSaid : Prop := leapTellsRow.holds Tryd.pinned (OpenSpec.ofChange leapTellsSpec)

/-- ITS FALSE NEIGHBOUR: 'it returns false'. Refute it at one input. -/
def leapTellsWrong : ChangeSpec := { name := "leapTells", fn := fun _ => fun
  | [d1, d2, d3, d4] => { results := [.lit (.bool false)], args := [d1, d2, d3, d4] }
  | _ => none }
def LeapTellsWrongFalsely : Prop := leapTellsRow.holds Tryd.pinned (OpenSpec.ofChange leapTellsWrong)

/- THE SECOND FORM. 'bulk': how many values and letters a reading holds, each counted each time it is reached (what is shared counts as often as it is met; a slice's spare places count too). A statement '..UptoSaid' is the law's where the arguments, and the package variables that the reading takes, are together of bulk at most 1048576: NARROWER than '..Said'. Prove '..Said' where nothing that the law and all that it calls make is longer than what came in: it says more and counts as full. Else prove '..UptoSaid'. A law counts once. -/
mutual
def uptoBulk {H : Type} : DataW H → Nat
  | .lit (.string bytes) => bytes.length + 1
  | .lit _ => 1
  | .nil => 1
  | .ptr d => uptoBulk d + 1
  | .slice elems spare => uptoBulkAll elems + uptoBulkAll spare + 1
  | .agg parts => uptoBulkAll parts + 1
  | .iface _ d => uptoBulk d + 1
  | .map entries => uptoBulkEntries entries + 1
  | .held _ => 1
def uptoBulkAll {H : Type} : List (DataW H) → Nat
  | [] => 0
  | d :: r => uptoBulk d + uptoBulkAll r
def uptoBulkEntries {H : Type} : List (Lit × DataW H) → Nat
  | [] => 0
  | x :: r => uptoBulkEntry x + uptoBulkEntries r
def uptoBulkEntry {H : Type} : Lit × DataW H → Nat
  | (.string bytes, d) => bytes.length + uptoBulk d + 1
  | (_, d) => uptoBulk d + 1
 end
def uptoSmall : (H : Type) → List (DataW H) → Bool := fun _ ds => decide (uptoBulkAll ds ≤ 1048576)
def OpenSpec.upto (s : _root_.Go.ChangeSpec) : _root_.Go.OpenSpec := { _root_.Go.OpenSpec.ofChange s with cond := some uptoSmall }

/-- 'noonlaw4.CivilWeeks', WHERE WHAT IT READS IS OF BULK AT MOST 1048576: true; the input reads as it did. -/
def civilWeeksUptoRow : OpenClaim := { program := "ytcigoleplhdlaaadoor", sum := "bf5f4a093e612ba07067c5a39dff42bd09b05f42915cbd5a0cc292068f6586f1", func := "noonmark/noonlaw4.CivilWeeks", spec := "civilWeeks", named := ["noonmark/civil.before"], apart := false, laid := [("noonmark/civil.before", laid_noonmark_civil_before)], narrowed := true }
def CivilWeeksUptoSaid : Prop := civilWeeksUptoRow.holds Tryd.pinned (OpenSpec.upto civilWeeksSpec)

/-- 'noonlaw1.CivilNext', WHERE WHAT IT READS IS OF BULK AT MOST 1048576: true; the input reads as it did. -/
def civilNextUptoRow : OpenClaim := { program := "ytcigoleplhdlaaadoor", sum := "bf5f4a093e612ba07067c5a39dff42bd09b05f42915cbd5a0cc292068f6586f1", func := "noonmark/noonlaw1.CivilNext", spec := "civilNext", named := ["noonmark/civil.before"], apart := false, laid := [("noonmark/civil.before", laid_noonmark_civil_before)], narrowed := true }
def CivilNextUptoSaid : Prop := civilNextUptoRow.holds Tryd.pinned (OpenSpec.upto civilNextSpec)

/-- 'noonlaw4.LeapNone', WHERE WHAT IT READS IS OF BULK AT MOST 1048576: true; the input reads as it did. -/
def leapNoneUptoRow : OpenClaim := { program := "ytcigoleplhdlaaadoor", sum := "bf5f4a093e612ba07067c5a39dff42bd09b05f42915cbd5a0cc292068f6586f1", func := "noonmark/noonlaw4.LeapNone", spec := "leapNone", named := ["noonmark/civil.before"], apart := false, laid := [("noonmark/civil.before", laid_noonmark_civil_before)], narrowed := true }
def LeapNoneUptoSaid : Prop := leapNoneUptoRow.holds Tryd.pinned (OpenSpec.upto leapNoneSpec)

/-- 'noonlaw1.LeapBack', WHERE WHAT IT READS IS OF BULK AT MOST 1048576: true; the input reads as it did. -/
def leapBackUptoRow : OpenClaim := { program := "ytcigoleplhdlaaadoor", sum := "bf5f4a093e612ba07067c5a39dff42bd09b05f42915cbd5a0cc292068f6586f1", func := "noonmark/noonlaw1.LeapBack", spec := "leapBack", named := ["noonmark/civil.before"], apart := false, laid := [("noonmark/civil.before", laid_noonmark_civil_before)], narrowed := true }
def LeapBackUptoSaid : Prop := leapBackUptoRow.holds Tryd.pinned (OpenSpec.upto leapBackSpec)

/-- 'noonlaw1.CivilTells', WHERE WHAT IT READS IS OF BULK AT MOST 1048576: true; the input reads as it did. -/
def civilTellsUptoRow : OpenClaim := { program := "ytcigoleplhdlaaadoor", sum := "bf5f4a093e612ba07067c5a39dff42bd09b05f42915cbd5a0cc292068f6586f1", func := "noonmark/noonlaw1.CivilTells", spec := "civilTells", inPlace := ["internal/reflectlite.ValueOf", "(internal/reflectlite.Value).Type", "(internal/reflectlite.Value).IsNil", "internal/reflectlite.TypeOf", "(internal/reflectlite.Value).Elem", "(internal/reflectlite.Value).Set"], unfollowed := true, recurses := true, named := ["noonmark/civil.before", "errors.errorType"], apart := false, laid := [("noonmark/civil.before", laid_noonmark_civil_before), ("errors.errorType", laid_errors_errorType)], narrowed := true }
def CivilTellsUptoSaid : Prop := civilTellsUptoRow.holds Tryd.pinned (OpenSpec.upto civilTellsSpec)

/-- 'noonlaw1.LeapTells', WHERE WHAT IT READS IS OF BULK AT MOST 1048576: true; the input reads as it did. -/
def leapTellsUptoRow : OpenClaim := { program := "ytcigoleplhdlaaadoor", sum := "bf5f4a093e612ba07067c5a39dff42bd09b05f42915cbd5a0cc292068f6586f1", func := "noonmark/noonlaw1.LeapTells", spec := "leapTells", inPlace := ["internal/reflectlite.ValueOf", "(internal/reflectlite.Value).Type", "(internal/reflectlite.Value).IsNil", "internal/reflectlite.TypeOf", "(internal/reflectlite.Value).Elem", "(internal/reflectlite.Value).Set"], unfollowed := true, recurses := true, named := ["errors.errorType", "noonmark/civil.before"], apart := false, laid := [("noonmark/civil.before", laid_noonmark_civil_before), ("errors.errorType", laid_errors_errorType)], narrowed := true }
def LeapTellsUptoSaid : Prop := leapTellsUptoRow.holds Tryd.pinned (OpenSpec.upto leapTellsSpec)

end Rows
end Go.Proofs.YtcigoleplhdlaaaDoor
