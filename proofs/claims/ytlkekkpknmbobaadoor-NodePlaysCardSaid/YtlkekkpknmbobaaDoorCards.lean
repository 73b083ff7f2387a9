/-
  DERIVED. GIVEN WITH THE SEED: THE CARDS: each row of YtlkekkpknmbobaaDoorRows.lean that lists a variable, with what it lists TIED to the program's text (the seventh form; the later family's looks); each row that meets fmt, with fmt's text TOLD by the authors' own Lean function (tested against real Go, not proved from fmt's source: count such statements apart). THE CARD IS WHAT COUNTS. Prove the row's statement (the work); the ties are given (YtlkekkpknmbobaaDoorTie.lean); close each card by the builder's one call (the guide's Derived/Test/ToyasCard.lean, 'card_holds'). Laid BY PROGRAM, IN A SANDBOX (cutbox-door.mjs). By AI agents, Wed Nov 11 2026. No macro, syntax, notation, axiom, sorry.
-/
import Derived.Test.YtlkekkpknmbobaaDoorRows
import GoSem.ClaimSeven
namespace Go.Proofs.YtlkekkpknmbobaaDoor
namespace Rows

/-- THE TIED CARD OF 'noonlaw4.NodeLearns'. -/
def nodeLearnsCard : Claim7 := { stood := { row := nodeLearnsRow, standIns := [], harness := (true, "2c29be68f8016a501a18a59dc316dfc622a3173d5d3a987a3dbf80bebd7e4ae9"), looks := true }, kinds := [], alts := [], laidByText := true, laidKinds := [.handle], laidTests := true, laidLooks := .later }
def NodeLearnsCardSaid : Prop := Claim7.holds Tryd.pinned (.plain (OpenSpec.ofChange nodeLearnsSpec)) nodeLearnsCard

/-- THE TIED CARD OF 'noonlaw2.NodePlays'. -/
def nodePlaysCard : Claim7 := { stood := { row := nodePlaysRow, standIns := [], harness := (true, "2c29be68f8016a501a18a59dc316dfc622a3173d5d3a987a3dbf80bebd7e4ae9"), looks := true }, kinds := [], alts := [], laidByText := true, laidKinds := [.handle], laidTests := true, laidLooks := .later }
def NodePlaysCardSaid : Prop := Claim7.holds Tryd.pinned (.plain (OpenSpec.ofChange nodePlaysSpec)) nodePlaysCard

/-- THE SECOND FORM's CARD OF 'noonlaw4.NodeLearns'. -/
def nodeLearnsUptoCard : Claim7 := { stood := { row := nodeLearnsUptoRow, standIns := [], harness := (true, "2c29be68f8016a501a18a59dc316dfc622a3173d5d3a987a3dbf80bebd7e4ae9"), looks := true }, kinds := [], alts := [], laidByText := true, laidKinds := [.handle], laidTests := true, laidLooks := .later }
def NodeLearnsUptoCardSaid : Prop := Claim7.holds Tryd.pinned (.plain (OpenSpec.upto nodeLearnsSpec)) nodeLearnsUptoCard

/-- THE SECOND FORM's CARD OF 'noonlaw2.NodePlays'. -/
def nodePlaysUptoCard : Claim7 := { stood := { row := nodePlaysUptoRow, standIns := [], harness := (true, "2c29be68f8016a501a18a59dc316dfc622a3173d5d3a987a3dbf80bebd7e4ae9"), looks := true }, kinds := [], alts := [], laidByText := true, laidKinds := [.handle], laidTests := true, laidLooks := .later }
def NodePlaysUptoCardSaid : Prop := Claim7.holds Tryd.pinned (.plain (OpenSpec.upto nodePlaysSpec)) nodePlaysUptoCard
end Rows
end Go.Proofs.YtlkekkpknmbobaaDoor
