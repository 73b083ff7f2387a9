/-
  No cell of these rows narrows 'for every input' (looked for: loops, veiled, ifaces, maps, wideKeys, modest, calm, conditions, laid).
  DERIVED. THE GIVEN ROWS OF THIS SEAT. 9 by the template 'for every input the law returns true; each argument reads behind the call as it read before'; 0 by the template 'total and deterministic' (their statements: YtekhafhgodkkcaaTotals.lean).
  GIVEN WITH THE SEED: the statements are not yours to turn. If you find one false, say at which input.
  Laid BY PROGRAM, IN A SANDBOX (cutbox-rows.mjs): the forced cells as the released guide's own fill.sh prints them over the translation 1ddc63718e7c788a… (all of the seat's roots in one cut). By AI agents, Wed Nov 11 2026. No macro, syntax, notation, axiom, sorry.
-/
import Derived.Test.YtekhafhgodkkcaaChecked
import GoSem.Claim
import GoSem.ClaimJoined
import GoSem.ClaimMapViews
import Derived.JoinedTies
import Derived.KernelRfl
namespace Go.Proofs.Ytekhafhgodkkcaa
/- THE CELL 'sum', in the pinned program and in every row, IS THE sha256 OF THE DUMP (.gsa) THAT YtekhafhgodkkcaaProg.lean LOADS. Nothing in Lean hashes anything: it is a label: what it is worth is what the hold of that sum in a sandbox is worth. -/
noncomputable def Try.pinned : Pinned := { name := "ytekhafhgodkkcaa", sum := "1ddc63718e7c788ad2e9b7ca9e901d6fcd3f51df1cdd5c4c2ccbeca29ceb59af", checked := Try.checked }
namespace Rows
def none {H : Type} : Left H := { results := [], args := [] }

/-- 'noonlaw4.DriftGrows': WHATEVER THE INPUT: true; the input reads as it did. -/
def driftGrowsSpec : ChangeSpec := { name := "driftGrows", fn := fun _ => fun
  | [d1, d2, d3, d4] => { results := [.lit (.bool true)], args := [d1, d2, d3, d4] }
  | _ => none }
def driftGrowsRow : OpenClaim := { program := "ytekhafhgodkkcaa", sum := "1ddc63718e7c788ad2e9b7ca9e901d6fcd3f51df1cdd5c4c2ccbeca29ceb59af", func := "noonmark/noonlaw4.DriftGrows", spec := "driftGrows", apart := false }
def DriftGrowsSaid : Prop := driftGrowsRow.holds Try.pinned (OpenSpec.ofChange driftGrowsSpec)

/-- ITS FALSE NEIGHBOUR: 'it returns false'. Refute it at one input. -/
def driftGrowsWrong : ChangeSpec := { name := "driftGrows", fn := fun _ => fun
  | [d1, d2, d3, d4] => { results := [.lit (.bool false)], args := [d1, d2, d3, d4] }
  | _ => none }
def DriftGrowsWrongFalsely : Prop := driftGrowsRow.holds Try.pinned (OpenSpec.ofChange driftGrowsWrong)

/-- 'noonlaw4.SpanFirst': WHATEVER THE INPUT: true; the input reads as it did. -/
def spanFirstSpec : ChangeSpec := { name := "spanFirst", fn := fun _ => fun
  | [d1, d2] => { results := [.lit (.bool true)], args := [d1, d2] }
  | _ => none }
def spanFirstRow : OpenClaim := { program := "ytekhafhgodkkcaa", sum := "1ddc63718e7c788ad2e9b7ca9e901d6fcd3f51df1cdd5c4c2ccbeca29ceb59af", func := "noonmark/noonlaw4.SpanFirst", spec := "spanFirst", apart := false }
def SpanFirstSaid : Prop := spanFirstRow.holds Try.pinned (OpenSpec.ofChange spanFirstSpec)

/-- ITS FALSE NEIGHBOUR: 'it returns false'. Refute it at one input. -/
def spanFirstWrong : ChangeSpec := { name := "spanFirst", fn := fun _ => fun
  | [d1, d2] => { results := [.lit (.bool false)], args := [d1, d2] }
  | _ => none }
def SpanFirstWrongFalsely : Prop := spanFirstRow.holds Try.pinned (OpenSpec.ofChange spanFirstWrong)

/-- 'noonlaw4.KeeperWrites': WHATEVER THE INPUT: true; the input reads as it did. -/
def keeperWritesSpec : ChangeSpec := { name := "keeperWrites", fn := fun _ => fun
  | [d1, d2] => { results := [.lit (.bool true)], args := [d1, d2] }
  | _ => none }
def keeperWritesRow : OpenClaim := { program := "ytekhafhgodkkcaa", sum := "1ddc63718e7c788ad2e9b7ca9e901d6fcd3f51df1cdd5c4c2ccbeca29ceb59af", func := "noonmark/noonlaw4.KeeperWrites", spec := "keeperWrites", apart := false }
def KeeperWritesSaid : Prop := keeperWritesRow.holds Try.pinned (OpenSpec.ofChange keeperWritesSpec)

/-- ITS FALSE NEIGHBOUR: 'it returns false'. Refute it at one input. -/
def keeperWritesWrong : ChangeSpec := { name := "keeperWrites", fn := fun _ => fun
  | [d1, d2] => { results := [.lit (.bool false)], args := [d1, d2] }
  | _ => none }
def KeeperWritesWrongFalsely : Prop := keeperWritesRow.holds Try.pinned (OpenSpec.ofChange keeperWritesWrong)

/-- 'noonlaw1.Names': WHATEVER THE INPUT: true; the input reads as it did. -/
def namesSpec : ChangeSpec := { name := "names", fn := fun _ => fun
  | [] => { results := [.lit (.bool true)], args := [] }
  | _ => none }
def namesRow : OpenClaim := { program := "ytekhafhgodkkcaa", sum := "1ddc63718e7c788ad2e9b7ca9e901d6fcd3f51df1cdd5c4c2ccbeca29ceb59af", func := "noonmark/noonlaw1.Names", spec := "names", apart := false }
def NamesSaid : Prop := namesRow.holds Try.pinned (OpenSpec.ofChange namesSpec)

/-- ITS FALSE NEIGHBOUR: 'it returns false'. Refute it at one input. -/
def namesWrong : ChangeSpec := { name := "names", fn := fun _ => fun
  | [] => { results := [.lit (.bool false)], args := [] }
  | _ => none }
def NamesWrongFalsely : Prop := namesRow.holds Try.pinned (OpenSpec.ofChange namesWrong)

/-- 'noonlaw3.KeeperRises': WHATEVER THE INPUT: true; the input reads as it did. -/
def keeperRisesSpec : ChangeSpec := { name := "keeperRises", fn := fun _ => fun
  | [d1, d2] => { results := [.lit (.bool true)], args := [d1, d2] }
  | _ => none }
def keeperRisesRow : OpenClaim := { program := "ytekhafhgodkkcaa", sum := "1ddc63718e7c788ad2e9b7ca9e901d6fcd3f51df1cdd5c4c2ccbeca29ceb59af", func := "noonmark/noonlaw3.KeeperRises", spec := "keeperRises", apart := false }
def KeeperRisesSaid : Prop := keeperRisesRow.holds Try.pinned (OpenSpec.ofChange keeperRisesSpec)

/-- ITS FALSE NEIGHBOUR: 'it returns false'. Refute it at one input. -/
def keeperRisesWrong : ChangeSpec := { name := "keeperRises", fn := fun _ => fun
  | [d1, d2] => { results := [.lit (.bool false)], args := [d1, d2] }
  | _ => none }
def KeeperRisesWrongFalsely : Prop := keeperRisesRow.holds Try.pinned (OpenSpec.ofChange keeperRisesWrong)

/-- 'noonlaw4.WaitMore': WHATEVER THE INPUT: true; the input reads as it did. -/
def waitMoreSpec : ChangeSpec := { name := "waitMore", fn := fun _ => fun
  | [d1, d2, d3, d4, d5] => { results := [.lit (.bool true)], args := [d1, d2, d3, d4, d5] }
  | _ => none }
def waitMoreRow : OpenClaim := { program := "ytekhafhgodkkcaa", sum := "1ddc63718e7c788ad2e9b7ca9e901d6fcd3f51df1cdd5c4c2ccbeca29ceb59af", func := "noonmark/noonlaw4.WaitMore", spec := "waitMore", apart := false }
def WaitMoreSaid : Prop := waitMoreRow.holds Try.pinned (OpenSpec.ofChange waitMoreSpec)

/-- ITS FALSE NEIGHBOUR: 'it returns false'. Refute it at one input. -/
def waitMoreWrong : ChangeSpec := { name := "waitMore", fn := fun _ => fun
  | [d1, d2, d3, d4, d5] => { results := [.lit (.bool false)], args := [d1, d2, d3, d4, d5] }
  | _ => none }
def WaitMoreWrongFalsely : Prop := waitMoreRow.holds Try.pinned (OpenSpec.ofChange waitMoreWrong)

/-- 'noonlaw4.SpanSame': WHATEVER THE INPUT: true; the input reads as it did. -/
def spanSameSpec : ChangeSpec := { name := "spanSame", fn := fun _ => fun
  | [d1, d2] => { results := [.lit (.bool true)], args := [d1, d2] }
  | _ => none }
def spanSameRow : OpenClaim := { program := "ytekhafhgodkkcaa", sum := "1ddc63718e7c788ad2e9b7ca9e901d6fcd3f51df1cdd5c4c2ccbeca29ceb59af", func := "noonmark/noonlaw4.SpanSame", spec := "spanSame", apart := false }
def SpanSameSaid : Prop := spanSameRow.holds Try.pinned (OpenSpec.ofChange spanSameSpec)

/-- ITS FALSE NEIGHBOUR: 'it returns false'. Refute it at one input. -/
def spanSameWrong : ChangeSpec := { name := "spanSame", fn := fun _ => fun
  | [d1, d2] => { results := [.lit (.bool false)], args := [d1, d2] }
  | _ => none }
def SpanSameWrongFalsely : Prop := spanSameRow.holds Try.pinned (OpenSpec.ofChange spanSameWrong)

/-- 'noonlaw1.ProbeHolds': WHATEVER THE INPUT: true; the input reads as it did. -/
def probeHoldsSpec : ChangeSpec := { name := "probeHolds", fn := fun _ => fun
  | [d1, d2, d3, d4, d5, d6, d7, d8] => { results := [.lit (.bool true)], args := [d1, d2, d3, d4, d5, d6, d7, d8] }
  | _ => none }
def probeHoldsRow : OpenClaim := { program := "ytekhafhgodkkcaa", sum := "1ddc63718e7c788ad2e9b7ca9e901d6fcd3f51df1cdd5c4c2ccbeca29ceb59af", func := "noonmark/noonlaw1.ProbeHolds", spec := "probeHolds", apart := false }
def ProbeHoldsSaid : Prop := probeHoldsRow.holds Try.pinned (OpenSpec.ofChange probeHoldsSpec)

/-- ITS FALSE NEIGHBOUR: 'it returns false'. Refute it at one input. -/
def probeHoldsWrong : ChangeSpec := { name := "probeHolds", fn := fun _ => fun
  | [d1, d2, d3, d4, d5, d6, d7, d8] => { results := [.lit (.bool false)], args := [d1, d2, d3, d4, d5, d6, d7, d8] }
  | _ => none }
def ProbeHoldsWrongFalsely : Prop := probeHoldsRow.holds Try.pinned (OpenSpec.ofChange probeHoldsWrong)

/-- 'noonlaw4.ProbeBest': WHATEVER THE INPUT: true; the input reads as it did. -/
def probeBestSpec : ChangeSpec := { name := "probeBest", fn := fun _ => fun
  | [d1, d2, d3] => { results := [.lit (.bool true)], args := [d1, d2, d3] }
  | _ => none }
def probeBestRow : OpenClaim := { program := "ytekhafhgodkkcaa", sum := "1ddc63718e7c788ad2e9b7ca9e901d6fcd3f51df1cdd5c4c2ccbeca29ceb59af", func := "noonmark/noonlaw4.ProbeBest", spec := "probeBest", apart := false }
def ProbeBestSaid : Prop := probeBestRow.holds Try.pinned (OpenSpec.ofChange probeBestSpec)

/-- ITS FALSE NEIGHBOUR: 'it returns false'. Refute it at one input. -/
def probeBestWrong : ChangeSpec := { name := "probeBest", fn := fun _ => fun
  | [d1, d2, d3] => { results := [.lit (.bool false)], args := [d1, d2, d3] }
  | _ => none }
def ProbeBestWrongFalsely : Prop := probeBestRow.holds Try.pinned (OpenSpec.ofChange probeBestWrong)

/- THE SECOND FORM. 'bulk': how many values and letters a reading holds, each counted each time it is reached (what is shared counts as often as it is met; a slice's spare places count too). A statement '..UptoSaid' is the law's where the arguments, and the package variables that the reading takes, are together of bulk at most 1048576: NARROWER than '..Said'. Prove '..Said' where nothing that the law and all that it calls make is longer than what came in: it says more and counts as full. Else prove '..UptoSaid'. A law counts once. -/
mutual
def uptoBulk {H : Type} : DataW H → Nat
  | .lit (.string bytes) => bytes.length + 1
  | .lit _ => 1
  | .nil => 1
  | .ptr d => uptoBulk d + 1
  | .slice elems spare => uptoBulkAll elems + uptoBulkAll spare + 1
  | .agg parts => uptoBulkAll parts + 1
  | .iface _ d => uptoBulk d + 1
  | .map entries => uptoBulkEntries entries + 1
  | .held _ => 1
def uptoBulkAll {H : Type} : List (DataW H) → Nat
  | [] => 0
  | d :: r => uptoBulk d + uptoBulkAll r
def uptoBulkEntries {H : Type} : List (Lit × DataW H) → Nat
  | [] => 0
  | x :: r => uptoBulkEntry x + uptoBulkEntries r
def uptoBulkEntry {H : Type} : Lit × DataW H → Nat
  | (.string bytes, d) => bytes.length + uptoBulk d + 1
  | (_, d) => uptoBulk d + 1
 end
def uptoSmall : (H : Type) → List (DataW H) → Bool := fun _ ds => decide (uptoBulkAll ds ≤ 1048576)
def OpenSpec.upto (s : _root_.Go.ChangeSpec) : _root_.Go.OpenSpec := { _root_.Go.OpenSpec.ofChange s with cond := some uptoSmall }

/-- 'noonlaw4.DriftGrows', WHERE WHAT IT READS IS OF BULK AT MOST 1048576: true; the input reads as it did. -/
def driftGrowsUptoRow : OpenClaim := { program := "ytekhafhgodkkcaa", sum := "1ddc63718e7c788ad2e9b7ca9e901d6fcd3f51df1cdd5c4c2ccbeca29ceb59af", func := "noonmark/noonlaw4.DriftGrows", spec := "driftGrows", apart := false, narrowed := true }
def DriftGrowsUptoSaid : Prop := driftGrowsUptoRow.holds Try.pinned (OpenSpec.upto driftGrowsSpec)

/-- 'noonlaw4.SpanFirst', WHERE WHAT IT READS IS OF BULK AT MOST 1048576: true; the input reads as it did. -/
def spanFirstUptoRow : OpenClaim := { program := "ytekhafhgodkkcaa", sum := "1ddc63718e7c788ad2e9b7ca9e901d6fcd3f51df1cdd5c4c2ccbeca29ceb59af", func := "noonmark/noonlaw4.SpanFirst", spec := "spanFirst", apart := false, narrowed := true }
def SpanFirstUptoSaid : Prop := spanFirstUptoRow.holds Try.pinned (OpenSpec.upto spanFirstSpec)

/-- 'noonlaw4.KeeperWrites', WHERE WHAT IT READS IS OF BULK AT MOST 1048576: true; the input reads as it did. -/
def keeperWritesUptoRow : OpenClaim := { program := "ytekhafhgodkkcaa", sum := "1ddc63718e7c788ad2e9b7ca9e901d6fcd3f51df1cdd5c4c2ccbeca29ceb59af", func := "noonmark/noonlaw4.KeeperWrites", spec := "keeperWrites", apart := false, narrowed := true }
def KeeperWritesUptoSaid : Prop := keeperWritesUptoRow.holds Try.pinned (OpenSpec.upto keeperWritesSpec)

/-- 'noonlaw1.Names', WHERE WHAT IT READS IS OF BULK AT MOST 1048576: true; the input reads as it did. -/
def namesUptoRow : OpenClaim := { program := "ytekhafhgodkkcaa", sum := "1ddc63718e7c788ad2e9b7ca9e901d6fcd3f51df1cdd5c4c2ccbeca29ceb59af", func := "noonmark/noonlaw1.Names", spec := "names", apart := false, narrowed := true }
def NamesUptoSaid : Prop := namesUptoRow.holds Try.pinned (OpenSpec.upto namesSpec)

/-- 'noonlaw3.KeeperRises', WHERE WHAT IT READS IS OF BULK AT MOST 1048576: true; the input reads as it did. -/
def keeperRisesUptoRow : OpenClaim := { program := "ytekhafhgodkkcaa", sum := "1ddc63718e7c788ad2e9b7ca9e901d6fcd3f51df1cdd5c4c2ccbeca29ceb59af", func := "noonmark/noonlaw3.KeeperRises", spec := "keeperRises", apart := false, narrowed := true }
def KeeperRisesUptoSaid : Prop := keeperRisesUptoRow.holds Try.pinned (OpenSpec.upto keeperRisesSpec)

/-- 'noonlaw4.WaitMore', WHERE WHAT IT READS IS OF BULK AT MOST 1048576: true; the input reads as it did. -/
def waitMoreUptoRow : OpenClaim := { program := "ytekhafhgodkkcaa", sum := "1ddc63718e7c788ad2e9b7ca9e901d6fcd3f51df1cdd5c4c2ccbeca29ceb59af", func := "noonmark/noonlaw4.WaitMore", spec := "waitMore", apart := false, narrowed := true }
def WaitMoreUptoSaid : Prop := waitMoreUptoRow.holds Try.pinned (OpenSpec.upto waitMoreSpec)

/-- 'noonlaw4.SpanSame', WHERE WHAT IT READS IS OF BULK AT MOST 1048576: true; the input reads as it did. -/
def spanSameUptoRow : OpenClaim := { program := "ytekhafhgodkkcaa", sum := "1ddc63718e7c788ad2e9b7ca9e901d6fcd3f51df1cdd5c4c2ccbeca29ceb59af", func := "noonmark/noonlaw4.SpanSame", spec := "spanSame", apart := false, narrowed := true }
def SpanSameUptoSaid : Prop := spanSameUptoRow.holds Try.pinned (OpenSpec.upto spanSameSpec)

/-- 'noonlaw1.ProbeHolds', WHERE WHAT IT READS IS OF BULK AT MOST 1048576: true; the input reads as it did. -/
def probeHoldsUptoRow : OpenClaim := { program := "ytekhafhgodkkcaa", sum := "1ddc63718e7c788ad2e9b7ca9e901d6fcd3f51df1cdd5c4c2ccbeca29ceb59af", func := "noonmark/noonlaw1.ProbeHolds", spec := "probeHolds", apart := false, narrowed := true }
def ProbeHoldsUptoSaid : Prop := probeHoldsUptoRow.holds Try.pinned (OpenSpec.upto probeHoldsSpec)

/-- 'noonlaw4.ProbeBest', WHERE WHAT IT READS IS OF BULK AT MOST 1048576: true; the input reads as it did. -/
def probeBestUptoRow : OpenClaim := { program := "ytekhafhgodkkcaa", sum := "1ddc63718e7c788ad2e9b7ca9e901d6fcd3f51df1cdd5c4c2ccbeca29ceb59af", func := "noonmark/noonlaw4.ProbeBest", spec := "probeBest", apart := false, narrowed := true }
def ProbeBestUptoSaid : Prop := probeBestUptoRow.holds Try.pinned (OpenSpec.upto probeBestSpec)

end Rows
end Go.Proofs.Ytekhafhgodkkcaa
