/-
  DERIVED. GIVEN WITH THE SEED: THE CARDS: each row of YtloniibmmajlbaaDoorRows.lean that lists a variable, with what it lists TIED to the program's text (the seventh form; the later family's looks); each row that meets fmt, with fmt's text TOLD by the authors' own Lean function (tested against real Go, not proved from fmt's source: count such statements apart). THE CARD IS WHAT COUNTS. Prove the row's statement (the work); the ties are given (YtloniibmmajlbaaDoorTie.lean); close each card by the builder's one call (the guide's Derived/Test/ToyasCard.lean, 'card_holds'). Laid BY PROGRAM, IN A SANDBOX (cutbox-door.mjs). By AI agents, Wed Nov 11 2026. No macro, syntax, notation, axiom, sorry.
-/
import Derived.Test.YtloniibmmajlbaaDoorRows
import GoSem.ClaimSeven
namespace Go.Proofs.YtloniibmmajlbaaDoor
namespace Rows

/-- THE TIED CARD OF 'noonlaw4.WorldUnder'. -/
def worldUnderCard : Claim7 := { stood := { row := worldUnderRow, standIns := [], harness := (true, "f3e8f5e826193e85f6bb826c7834cfa8f79d8cdabf9a08bc547dab2613827504"), looks := true }, kinds := [], alts := [], laidByText := true, laidKinds := [.handle], laidTests := true, laidLooks := .later }
def WorldUnderCardSaid : Prop := Claim7.holds Tryd.pinned (.plain (OpenSpec.ofChange worldUnderSpec)) worldUnderCard

/-- THE TIED CARD OF 'noonlaw2.WorldPlays'. -/
def worldPlaysCard : Claim7 := { stood := { row := worldPlaysRow, standIns := [], harness := (true, "f3e8f5e826193e85f6bb826c7834cfa8f79d8cdabf9a08bc547dab2613827504"), looks := true }, kinds := [], alts := [], laidByText := true, laidKinds := [.handle], laidTests := true, laidLooks := .later }
def WorldPlaysCardSaid : Prop := Claim7.holds Tryd.pinned (.plain (OpenSpec.ofChange worldPlaysSpec)) worldPlaysCard

/-- THE SECOND FORM's CARD OF 'noonlaw4.WorldUnder'. -/
def worldUnderUptoCard : Claim7 := { stood := { row := worldUnderUptoRow, standIns := [], harness := (true, "f3e8f5e826193e85f6bb826c7834cfa8f79d8cdabf9a08bc547dab2613827504"), looks := true }, kinds := [], alts := [], laidByText := true, laidKinds := [.handle], laidTests := true, laidLooks := .later }
def WorldUnderUptoCardSaid : Prop := Claim7.holds Tryd.pinned (.plain (OpenSpec.upto worldUnderSpec)) worldUnderUptoCard

/-- THE SECOND FORM's CARD OF 'noonlaw2.WorldPlays'. -/
def worldPlaysUptoCard : Claim7 := { stood := { row := worldPlaysUptoRow, standIns := [], harness := (true, "f3e8f5e826193e85f6bb826c7834cfa8f79d8cdabf9a08bc547dab2613827504"), looks := true }, kinds := [], alts := [], laidByText := true, laidKinds := [.handle], laidTests := true, laidLooks := .later }
def WorldPlaysUptoCardSaid : Prop := Claim7.holds Tryd.pinned (.plain (OpenSpec.upto worldPlaysSpec)) worldPlaysUptoCard
end Rows
end Go.Proofs.YtloniibmmajlbaaDoor
