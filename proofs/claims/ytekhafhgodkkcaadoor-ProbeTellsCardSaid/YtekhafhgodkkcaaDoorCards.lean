/-
  DERIVED. GIVEN WITH THE SEED: THE CARDS: each row of YtekhafhgodkkcaaDoorRows.lean that lists a variable, with what it lists TIED to the program's text (the seventh form; the later family's looks); each row that meets fmt, with fmt's text TOLD by the authors' own Lean function (tested against real Go, not proved from fmt's source: count such statements apart). THE CARD IS WHAT COUNTS. Prove the row's statement (the work); the ties are given (YtekhafhgodkkcaaDoorTie.lean); close each card by the builder's one call (the guide's Derived/Test/ToyasCard.lean, 'card_holds'). Laid BY PROGRAM, IN A SANDBOX (cutbox-door.mjs). By AI agents, Wed Nov 11 2026. No macro, syntax, notation, axiom, sorry.
-/
import Derived.Test.YtekhafhgodkkcaaDoorRows
import GoSem.ClaimSeven
namespace Go.Proofs.YtekhafhgodkkcaaDoor
namespace Rows

/-- THE TIED CARD OF 'noonlaw1.DriftBack'. -/
def driftBackCard : Claim7 := { stood := { row := driftBackRow, standIns := [], harness := (true, "96783c7292fa3c7e77650cae2752fb2515964f4be3579cd7df59378a5ddc1ab7"), looks := true }, kinds := [], alts := [], laidByText := true, laidKinds := [.handle], laidTests := true, laidLooks := .later }
def DriftBackCardSaid : Prop := Claim7.holds Tryd.pinned (.plain (OpenSpec.ofChange driftBackSpec)) driftBackCard

/-- THE TIED CARD OF 'noonlaw1.DriftTells'. -/
def driftTellsCard : Claim7 := { stood := { row := driftTellsRow, standIns := [], harness := (true, "96783c7292fa3c7e77650cae2752fb2515964f4be3579cd7df59378a5ddc1ab7"), looks := true }, kinds := [], alts := [], laidByText := true, laidKinds := [.handle], laidTests := true, laidLooks := .later }
def DriftTellsCardSaid : Prop := Claim7.holds Tryd.pinned (.plain (OpenSpec.ofChange driftTellsSpec)) driftTellsCard

/-- THE TIED CARD OF 'noonlaw1.ProbeTells'. -/
def probeTellsCard : Claim7 := { stood := { row := probeTellsRow, standIns := [], harness := (true, "96783c7292fa3c7e77650cae2752fb2515964f4be3579cd7df59378a5ddc1ab7"), looks := true }, kinds := [], alts := [], laidByText := true, laidKinds := [.handle], laidTests := true, laidLooks := .later }
def ProbeTellsCardSaid : Prop := Claim7.holds Tryd.pinned (.plain (OpenSpec.ofChange probeTellsSpec)) probeTellsCard

/-- THE SECOND FORM's CARD OF 'noonlaw1.DriftBack'. -/
def driftBackUptoCard : Claim7 := { stood := { row := driftBackUptoRow, standIns := [], harness := (true, "96783c7292fa3c7e77650cae2752fb2515964f4be3579cd7df59378a5ddc1ab7"), looks := true }, kinds := [], alts := [], laidByText := true, laidKinds := [.handle], laidTests := true, laidLooks := .later }
def DriftBackUptoCardSaid : Prop := Claim7.holds Tryd.pinned (.plain (OpenSpec.upto driftBackSpec)) driftBackUptoCard

/-- THE SECOND FORM's CARD OF 'noonlaw1.DriftTells'. -/
def driftTellsUptoCard : Claim7 := { stood := { row := driftTellsUptoRow, standIns := [], harness := (true, "96783c7292fa3c7e77650cae2752fb2515964f4be3579cd7df59378a5ddc1ab7"), looks := true }, kinds := [], alts := [], laidByText := true, laidKinds := [.handle], laidTests := true, laidLooks := .later }
def DriftTellsUptoCardSaid : Prop := Claim7.holds Tryd.pinned (.plain (OpenSpec.upto driftTellsSpec)) driftTellsUptoCard

/-- THE SECOND FORM's CARD OF 'noonlaw1.ProbeTells'. -/
def probeTellsUptoCard : Claim7 := { stood := { row := probeTellsUptoRow, standIns := [], harness := (true, "96783c7292fa3c7e77650cae2752fb2515964f4be3579cd7df59378a5ddc1ab7"), looks := true }, kinds := [], alts := [], laidByText := true, laidKinds := [.handle], laidTests := true, laidLooks := .later }
def ProbeTellsUptoCardSaid : Prop := Claim7.holds Tryd.pinned (.plain (OpenSpec.upto probeTellsSpec)) probeTellsUptoCard
end Rows
end Go.Proofs.YtekhafhgodkkcaaDoor
