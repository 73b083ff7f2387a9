/-
  DERIVED. GIVEN WITH THE SEED: THE CARDS: each row of YtkejdfpdehchcaaDoorRows.lean that lists a variable, with what it lists TIED to the program's text (the seventh form; the later family's looks); each row that meets fmt, with fmt's text TOLD by the authors' own Lean function (tested against real Go, not proved from fmt's source: count such statements apart). THE CARD IS WHAT COUNTS. Prove the row's statement (the work); the ties are given (YtkejdfpdehchcaaDoorTie.lean); close each card by the builder's one call (the guide's Derived/Test/ToyasCard.lean, 'card_holds'). Laid BY PROGRAM, IN A SANDBOX (cutbox-door.mjs). By AI agents, Wed Nov 11 2026. No macro, syntax, notation, axiom, sorry.
-/
import Derived.Test.YtkejdfpdehchcaaDoorRows
import GoSem.ClaimSeven
namespace Go.Proofs.YtkejdfpdehchcaaDoor
namespace Rows

/-- THE TIED CARD OF 'noonlaw3.KeeperPlays'. -/
def keeperPlaysCard : Claim7 := { stood := { row := keeperPlaysRow, standIns := [], harness := (true, "a837b7eb38fe0caf4d99faa171e0ead19968666fb74479d9db30bea108056d7a"), looks := true }, kinds := [], alts := [], laidByText := true, laidKinds := [.handle], laidTests := true, laidLooks := .later }
def KeeperPlaysCardSaid : Prop := Claim7.holds Tryd.pinned (.plain (OpenSpec.ofChange keeperPlaysSpec)) keeperPlaysCard

/-- THE TIED CARD OF 'noonlaw2.WaitTells'. -/
def waitTellsCard : Claim7 := { stood := { row := waitTellsRow, standIns := [], harness := (true, "a837b7eb38fe0caf4d99faa171e0ead19968666fb74479d9db30bea108056d7a"), looks := true }, kinds := [], alts := [], laidByText := true, laidKinds := [.handle], laidTests := true, laidLooks := .later }
def WaitTellsCardSaid : Prop := Claim7.holds Tryd.pinned (.plain (OpenSpec.ofChange waitTellsSpec)) waitTellsCard

/-- THE TIED CARD OF 'noonlaw4.TreeAll'. -/
def treeAllCard : Claim7 := { stood := { row := treeAllRow, standIns := [], harness := (true, "a837b7eb38fe0caf4d99faa171e0ead19968666fb74479d9db30bea108056d7a"), looks := true }, kinds := [], alts := [], laidByText := true, laidKinds := [.handle], laidTests := true, laidLooks := .later }
def TreeAllCardSaid : Prop := Claim7.holds Tryd.pinned (.plain (OpenSpec.ofChange treeAllSpec)) treeAllCard

/-- THE TIED CARD OF 'noonlaw4.ClockWidens'. -/
def clockWidensCard : Claim7 := { stood := { row := clockWidensRow, standIns := [], harness := (true, "a837b7eb38fe0caf4d99faa171e0ead19968666fb74479d9db30bea108056d7a"), looks := true }, kinds := [], alts := [], laidByText := true, laidKinds := [.handle], laidTests := true, laidLooks := .later }
def ClockWidensCardSaid : Prop := Claim7.holds Tryd.pinned (.plain (OpenSpec.ofChange clockWidensSpec)) clockWidensCard

/-- THE TIED CARD OF 'noonlaw2.WaitOver'. -/
def waitOverCard : Claim7 := { stood := { row := waitOverRow, standIns := [], harness := (true, "a837b7eb38fe0caf4d99faa171e0ead19968666fb74479d9db30bea108056d7a"), looks := true }, kinds := [], alts := [], laidByText := true, laidKinds := [.handle], laidTests := true, laidLooks := .later }
def WaitOverCardSaid : Prop := Claim7.holds Tryd.pinned (.plain (OpenSpec.ofChange waitOverSpec)) waitOverCard

/-- THE TIED CARD OF 'noonlaw4.WorldUnder'. -/
def worldUnderCard : Claim7 := { stood := { row := worldUnderRow, standIns := [], harness := (true, "a837b7eb38fe0caf4d99faa171e0ead19968666fb74479d9db30bea108056d7a"), looks := true }, kinds := [], alts := [], laidByText := true, laidKinds := [.handle], laidTests := true, laidLooks := .later }
def WorldUnderCardSaid : Prop := Claim7.holds Tryd.pinned (.plain (OpenSpec.ofChange worldUnderSpec)) worldUnderCard

/-- THE TIED CARD OF 'noonlaw2.ClockPlays'. -/
def clockPlaysCard : Claim7 := { stood := { row := clockPlaysRow, standIns := [], harness := (true, "a837b7eb38fe0caf4d99faa171e0ead19968666fb74479d9db30bea108056d7a"), looks := true }, kinds := [], alts := [], laidByText := true, laidKinds := [.handle], laidTests := true, laidLooks := .later }
def ClockPlaysCardSaid : Prop := Claim7.holds Tryd.pinned (.plain (OpenSpec.ofChange clockPlaysSpec)) clockPlaysCard

/-- THE TIED CARD OF 'noonlaw2.ClockHolds'. -/
def clockHoldsCard : Claim7 := { stood := { row := clockHoldsRow, standIns := [], harness := (true, "a837b7eb38fe0caf4d99faa171e0ead19968666fb74479d9db30bea108056d7a"), looks := true }, kinds := [], alts := [], laidByText := true, laidKinds := [.handle], laidTests := true, laidLooks := .later }
def ClockHoldsCardSaid : Prop := Claim7.holds Tryd.pinned (.plain (OpenSpec.ofChange clockHoldsSpec)) clockHoldsCard

/-- THE TIED CARD OF 'noonlaw3.WireTells'. -/
def wireTellsCard : Claim7 := { stood := { row := wireTellsRow, standIns := [], harness := (true, "a837b7eb38fe0caf4d99faa171e0ead19968666fb74479d9db30bea108056d7a"), looks := true }, kinds := [], alts := [], laidByText := true, laidKinds := [.handle], laidTests := true, laidLooks := .later }
def WireTellsCardSaid : Prop := Claim7.holds Tryd.pinned (.plain (OpenSpec.ofChange wireTellsSpec)) wireTellsCard

/-- THE TIED CARD OF 'noonlaw1.TreeTells'. -/
def treeTellsCard : Claim7 := { stood := { row := treeTellsRow, standIns := [], harness := (true, "a837b7eb38fe0caf4d99faa171e0ead19968666fb74479d9db30bea108056d7a"), looks := true }, kinds := [], alts := [], laidByText := true, laidKinds := [.handle], laidTests := true, laidLooks := .later }
def TreeTellsCardSaid : Prop := Claim7.holds Tryd.pinned (.plain (OpenSpec.ofChange treeTellsSpec)) treeTellsCard

/-- THE TIED CARD OF 'noonlaw4.NodeLearns'. -/
def nodeLearnsCard : Claim7 := { stood := { row := nodeLearnsRow, standIns := [], harness := (true, "a837b7eb38fe0caf4d99faa171e0ead19968666fb74479d9db30bea108056d7a"), looks := true }, kinds := [], alts := [], laidByText := true, laidKinds := [.handle], laidTests := true, laidLooks := .later }
def NodeLearnsCardSaid : Prop := Claim7.holds Tryd.pinned (.plain (OpenSpec.ofChange nodeLearnsSpec)) nodeLearnsCard

/-- THE TIED CARD OF 'noonlaw2.WorldPlays'. -/
def worldPlaysCard : Claim7 := { stood := { row := worldPlaysRow, standIns := [], harness := (true, "a837b7eb38fe0caf4d99faa171e0ead19968666fb74479d9db30bea108056d7a"), looks := true }, kinds := [], alts := [], laidByText := true, laidKinds := [.handle], laidTests := true, laidLooks := .later }
def WorldPlaysCardSaid : Prop := Claim7.holds Tryd.pinned (.plain (OpenSpec.ofChange worldPlaysSpec)) worldPlaysCard

/-- THE SECOND FORM's CARD OF 'noonlaw3.KeeperPlays'. -/
def keeperPlaysUptoCard : Claim7 := { stood := { row := keeperPlaysUptoRow, standIns := [], harness := (true, "a837b7eb38fe0caf4d99faa171e0ead19968666fb74479d9db30bea108056d7a"), looks := true }, kinds := [], alts := [], laidByText := true, laidKinds := [.handle], laidTests := true, laidLooks := .later }
def KeeperPlaysUptoCardSaid : Prop := Claim7.holds Tryd.pinned (.plain (OpenSpec.upto keeperPlaysSpec)) keeperPlaysUptoCard

/-- THE SECOND FORM's CARD OF 'noonlaw2.WaitTells'. -/
def waitTellsUptoCard : Claim7 := { stood := { row := waitTellsUptoRow, standIns := [], harness := (true, "a837b7eb38fe0caf4d99faa171e0ead19968666fb74479d9db30bea108056d7a"), looks := true }, kinds := [], alts := [], laidByText := true, laidKinds := [.handle], laidTests := true, laidLooks := .later }
def WaitTellsUptoCardSaid : Prop := Claim7.holds Tryd.pinned (.plain (OpenSpec.upto waitTellsSpec)) waitTellsUptoCard

/-- THE SECOND FORM's CARD OF 'noonlaw4.TreeAll'. -/
def treeAllUptoCard : Claim7 := { stood := { row := treeAllUptoRow, standIns := [], harness := (true, "a837b7eb38fe0caf4d99faa171e0ead19968666fb74479d9db30bea108056d7a"), looks := true }, kinds := [], alts := [], laidByText := true, laidKinds := [.handle], laidTests := true, laidLooks := .later }
def TreeAllUptoCardSaid : Prop := Claim7.holds Tryd.pinned (.plain (OpenSpec.upto treeAllSpec)) treeAllUptoCard

/-- THE SECOND FORM's CARD OF 'noonlaw4.ClockWidens'. -/
def clockWidensUptoCard : Claim7 := { stood := { row := clockWidensUptoRow, standIns := [], harness := (true, "a837b7eb38fe0caf4d99faa171e0ead19968666fb74479d9db30bea108056d7a"), looks := true }, kinds := [], alts := [], laidByText := true, laidKinds := [.handle], laidTests := true, laidLooks := .later }
def ClockWidensUptoCardSaid : Prop := Claim7.holds Tryd.pinned (.plain (OpenSpec.upto clockWidensSpec)) clockWidensUptoCard

/-- THE SECOND FORM's CARD OF 'noonlaw2.WaitOver'. -/
def waitOverUptoCard : Claim7 := { stood := { row := waitOverUptoRow, standIns := [], harness := (true, "a837b7eb38fe0caf4d99faa171e0ead19968666fb74479d9db30bea108056d7a"), looks := true }, kinds := [], alts := [], laidByText := true, laidKinds := [.handle], laidTests := true, laidLooks := .later }
def WaitOverUptoCardSaid : Prop := Claim7.holds Tryd.pinned (.plain (OpenSpec.upto waitOverSpec)) waitOverUptoCard

/-- THE SECOND FORM's CARD OF 'noonlaw4.WorldUnder'. -/
def worldUnderUptoCard : Claim7 := { stood := { row := worldUnderUptoRow, standIns := [], harness := (true, "a837b7eb38fe0caf4d99faa171e0ead19968666fb74479d9db30bea108056d7a"), looks := true }, kinds := [], alts := [], laidByText := true, laidKinds := [.handle], laidTests := true, laidLooks := .later }
def WorldUnderUptoCardSaid : Prop := Claim7.holds Tryd.pinned (.plain (OpenSpec.upto worldUnderSpec)) worldUnderUptoCard

/-- THE SECOND FORM's CARD OF 'noonlaw2.ClockPlays'. -/
def clockPlaysUptoCard : Claim7 := { stood := { row := clockPlaysUptoRow, standIns := [], harness := (true, "a837b7eb38fe0caf4d99faa171e0ead19968666fb74479d9db30bea108056d7a"), looks := true }, kinds := [], alts := [], laidByText := true, laidKinds := [.handle], laidTests := true, laidLooks := .later }
def ClockPlaysUptoCardSaid : Prop := Claim7.holds Tryd.pinned (.plain (OpenSpec.upto clockPlaysSpec)) clockPlaysUptoCard

/-- THE SECOND FORM's CARD OF 'noonlaw2.ClockHolds'. -/
def clockHoldsUptoCard : Claim7 := { stood := { row := clockHoldsUptoRow, standIns := [], harness := (true, "a837b7eb38fe0caf4d99faa171e0ead19968666fb74479d9db30bea108056d7a"), looks := true }, kinds := [], alts := [], laidByText := true, laidKinds := [.handle], laidTests := true, laidLooks := .later }
def ClockHoldsUptoCardSaid : Prop := Claim7.holds Tryd.pinned (.plain (OpenSpec.upto clockHoldsSpec)) clockHoldsUptoCard

/-- THE SECOND FORM's CARD OF 'noonlaw3.WireTells'. -/
def wireTellsUptoCard : Claim7 := { stood := { row := wireTellsUptoRow, standIns := [], harness := (true, "a837b7eb38fe0caf4d99faa171e0ead19968666fb74479d9db30bea108056d7a"), looks := true }, kinds := [], alts := [], laidByText := true, laidKinds := [.handle], laidTests := true, laidLooks := .later }
def WireTellsUptoCardSaid : Prop := Claim7.holds Tryd.pinned (.plain (OpenSpec.upto wireTellsSpec)) wireTellsUptoCard

/-- THE SECOND FORM's CARD OF 'noonlaw1.TreeTells'. -/
def treeTellsUptoCard : Claim7 := { stood := { row := treeTellsUptoRow, standIns := [], harness := (true, "a837b7eb38fe0caf4d99faa171e0ead19968666fb74479d9db30bea108056d7a"), looks := true }, kinds := [], alts := [], laidByText := true, laidKinds := [.handle], laidTests := true, laidLooks := .later }
def TreeTellsUptoCardSaid : Prop := Claim7.holds Tryd.pinned (.plain (OpenSpec.upto treeTellsSpec)) treeTellsUptoCard

/-- THE SECOND FORM's CARD OF 'noonlaw4.NodeLearns'. -/
def nodeLearnsUptoCard : Claim7 := { stood := { row := nodeLearnsUptoRow, standIns := [], harness := (true, "a837b7eb38fe0caf4d99faa171e0ead19968666fb74479d9db30bea108056d7a"), looks := true }, kinds := [], alts := [], laidByText := true, laidKinds := [.handle], laidTests := true, laidLooks := .later }
def NodeLearnsUptoCardSaid : Prop := Claim7.holds Tryd.pinned (.plain (OpenSpec.upto nodeLearnsSpec)) nodeLearnsUptoCard

/-- THE SECOND FORM's CARD OF 'noonlaw2.WorldPlays'. -/
def worldPlaysUptoCard : Claim7 := { stood := { row := worldPlaysUptoRow, standIns := [], harness := (true, "a837b7eb38fe0caf4d99faa171e0ead19968666fb74479d9db30bea108056d7a"), looks := true }, kinds := [], alts := [], laidByText := true, laidKinds := [.handle], laidTests := true, laidLooks := .later }
def WorldPlaysUptoCardSaid : Prop := Claim7.holds Tryd.pinned (.plain (OpenSpec.upto worldPlaysSpec)) worldPlaysUptoCard
end Rows
end Go.Proofs.YtkejdfpdehchcaaDoor
