/-
  DERIVED. GIVEN WITH THE SEED: THE CARDS: each row of YtcigoleplhdlaaaDoorRows.lean that lists a variable, with what it lists TIED to the program's text (the seventh form; the later family's looks); each row that meets fmt, with fmt's text TOLD by the authors' own Lean function (tested against real Go, not proved from fmt's source: count such statements apart). THE CARD IS WHAT COUNTS. Prove the row's statement (the work); the ties are given (YtcigoleplhdlaaaDoorTie.lean); close each card by the builder's one call (the guide's Derived/Test/ToyasCard.lean, 'card_holds'). Laid BY PROGRAM, IN A SANDBOX (cutbox-door.mjs). By AI agents, Wed Nov 11 2026. No macro, syntax, notation, axiom, sorry.
-/
import Derived.Test.YtcigoleplhdlaaaDoorRows
import GoSem.ClaimSeven
namespace Go.Proofs.YtcigoleplhdlaaaDoor
namespace Rows

/-- THE TIED CARD OF 'noonlaw4.CivilWeeks'. -/
def civilWeeksCard : Claim7 := { stood := { row := civilWeeksRow, standIns := [], harness := (true, "9dff653a4b5964c10b901abb83610d9a9af9bf1fcbbda1bf77fe8cffd9b3830b"), looks := true }, kinds := [], alts := [], laidByText := true, laidKinds := [.data], laidTests := true, laidLooks := .later }
def CivilWeeksCardSaid : Prop := Claim7.holds Tryd.pinned (.plain (OpenSpec.ofChange civilWeeksSpec)) civilWeeksCard

/-- THE TIED CARD OF 'noonlaw1.CivilNext'. -/
def civilNextCard : Claim7 := { stood := { row := civilNextRow, standIns := [], harness := (true, "9dff653a4b5964c10b901abb83610d9a9af9bf1fcbbda1bf77fe8cffd9b3830b"), looks := true }, kinds := [], alts := [], laidByText := true, laidKinds := [.data], laidTests := true, laidLooks := .later }
def CivilNextCardSaid : Prop := Claim7.holds Tryd.pinned (.plain (OpenSpec.ofChange civilNextSpec)) civilNextCard

/-- THE TIED CARD OF 'noonlaw4.LeapNone'. -/
def leapNoneCard : Claim7 := { stood := { row := leapNoneRow, standIns := [], harness := (true, "9dff653a4b5964c10b901abb83610d9a9af9bf1fcbbda1bf77fe8cffd9b3830b"), looks := true }, kinds := [], alts := [], laidByText := true, laidKinds := [.data], laidTests := true, laidLooks := .later }
def LeapNoneCardSaid : Prop := Claim7.holds Tryd.pinned (.plain (OpenSpec.ofChange leapNoneSpec)) leapNoneCard

/-- THE TIED CARD OF 'noonlaw1.LeapBack'. -/
def leapBackCard : Claim7 := { stood := { row := leapBackRow, standIns := [], harness := (true, "9dff653a4b5964c10b901abb83610d9a9af9bf1fcbbda1bf77fe8cffd9b3830b"), looks := true }, kinds := [], alts := [], laidByText := true, laidKinds := [.data], laidTests := true, laidLooks := .later }
def LeapBackCardSaid : Prop := Claim7.holds Tryd.pinned (.plain (OpenSpec.ofChange leapBackSpec)) leapBackCard

/-- THE TIED CARD OF 'noonlaw1.CivilTells'. -/
def civilTellsCard : Claim7 := { stood := { row := civilTellsRow, standIns := [], harness := (true, "9dff653a4b5964c10b901abb83610d9a9af9bf1fcbbda1bf77fe8cffd9b3830b"), looks := true }, kinds := [], alts := [], laidByText := true, laidKinds := [.data, .handle], laidTests := true, laidLooks := .later }
def CivilTellsCardSaid : Prop := Claim7.holds Tryd.pinned (.plain (OpenSpec.ofChange civilTellsSpec)) civilTellsCard

/-- THE TIED CARD OF 'noonlaw1.LeapTells'. -/
def leapTellsCard : Claim7 := { stood := { row := leapTellsRow, standIns := [], harness := (true, "9dff653a4b5964c10b901abb83610d9a9af9bf1fcbbda1bf77fe8cffd9b3830b"), looks := true }, kinds := [], alts := [], laidByText := true, laidKinds := [.data, .handle], laidTests := true, laidLooks := .later }
def LeapTellsCardSaid : Prop := Claim7.holds Tryd.pinned (.plain (OpenSpec.ofChange leapTellsSpec)) leapTellsCard

/-- THE SECOND FORM's CARD OF 'noonlaw4.CivilWeeks'. -/
def civilWeeksUptoCard : Claim7 := { stood := { row := civilWeeksUptoRow, standIns := [], harness := (true, "9dff653a4b5964c10b901abb83610d9a9af9bf1fcbbda1bf77fe8cffd9b3830b"), looks := true }, kinds := [], alts := [], laidByText := true, laidKinds := [.data], laidTests := true, laidLooks := .later }
def CivilWeeksUptoCardSaid : Prop := Claim7.holds Tryd.pinned (.plain (OpenSpec.upto civilWeeksSpec)) civilWeeksUptoCard

/-- THE SECOND FORM's CARD OF 'noonlaw1.CivilNext'. -/
def civilNextUptoCard : Claim7 := { stood := { row := civilNextUptoRow, standIns := [], harness := (true, "9dff653a4b5964c10b901abb83610d9a9af9bf1fcbbda1bf77fe8cffd9b3830b"), looks := true }, kinds := [], alts := [], laidByText := true, laidKinds := [.data], laidTests := true, laidLooks := .later }
def CivilNextUptoCardSaid : Prop := Claim7.holds Tryd.pinned (.plain (OpenSpec.upto civilNextSpec)) civilNextUptoCard

/-- THE SECOND FORM's CARD OF 'noonlaw4.LeapNone'. -/
def leapNoneUptoCard : Claim7 := { stood := { row := leapNoneUptoRow, standIns := [], harness := (true, "9dff653a4b5964c10b901abb83610d9a9af9bf1fcbbda1bf77fe8cffd9b3830b"), looks := true }, kinds := [], alts := [], laidByText := true, laidKinds := [.data], laidTests := true, laidLooks := .later }
def LeapNoneUptoCardSaid : Prop := Claim7.holds Tryd.pinned (.plain (OpenSpec.upto leapNoneSpec)) leapNoneUptoCard

/-- THE SECOND FORM's CARD OF 'noonlaw1.LeapBack'. -/
def leapBackUptoCard : Claim7 := { stood := { row := leapBackUptoRow, standIns := [], harness := (true, "9dff653a4b5964c10b901abb83610d9a9af9bf1fcbbda1bf77fe8cffd9b3830b"), looks := true }, kinds := [], alts := [], laidByText := true, laidKinds := [.data], laidTests := true, laidLooks := .later }
def LeapBackUptoCardSaid : Prop := Claim7.holds Tryd.pinned (.plain (OpenSpec.upto leapBackSpec)) leapBackUptoCard

/-- THE SECOND FORM's CARD OF 'noonlaw1.CivilTells'. -/
def civilTellsUptoCard : Claim7 := { stood := { row := civilTellsUptoRow, standIns := [], harness := (true, "9dff653a4b5964c10b901abb83610d9a9af9bf1fcbbda1bf77fe8cffd9b3830b"), looks := true }, kinds := [], alts := [], laidByText := true, laidKinds := [.data, .handle], laidTests := true, laidLooks := .later }
def CivilTellsUptoCardSaid : Prop := Claim7.holds Tryd.pinned (.plain (OpenSpec.upto civilTellsSpec)) civilTellsUptoCard

/-- THE SECOND FORM's CARD OF 'noonlaw1.LeapTells'. -/
def leapTellsUptoCard : Claim7 := { stood := { row := leapTellsUptoRow, standIns := [], harness := (true, "9dff653a4b5964c10b901abb83610d9a9af9bf1fcbbda1bf77fe8cffd9b3830b"), looks := true }, kinds := [], alts := [], laidByText := true, laidKinds := [.data, .handle], laidTests := true, laidLooks := .later }
def LeapTellsUptoCardSaid : Prop := Claim7.holds Tryd.pinned (.plain (OpenSpec.upto leapTellsSpec)) leapTellsUptoCard
end Rows
end Go.Proofs.YtcigoleplhdlaaaDoor
