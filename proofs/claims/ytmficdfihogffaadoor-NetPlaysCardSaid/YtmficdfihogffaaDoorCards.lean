/-
  DERIVED. GIVEN WITH THE SEED: THE CARDS: each row of YtmficdfihogffaaDoorRows.lean that lists a variable, with what it lists TIED to the program's text (the seventh form; the later family's looks); each row that meets fmt, with fmt's text TOLD by the authors' own Lean function (tested against real Go, not proved from fmt's source: count such statements apart). THE CARD IS WHAT COUNTS. Prove the row's statement (the work); the ties are given (YtmficdfihogffaaDoorTie.lean); close each card by the builder's one call (the guide's Derived/Test/ToyasCard.lean, 'card_holds'). Laid BY PROGRAM, IN A SANDBOX (cutbox-door.mjs). By AI agents, Wed Nov 11 2026. No macro, syntax, notation, axiom, sorry.
-/
import Derived.Test.YtmficdfihogffaaDoorRows
import GoSem.ClaimSeven
namespace Go.Proofs.YtmficdfihogffaaDoor
namespace Rows

/-- THE TIED CARD OF 'noonlaw2.NetPlays'. -/
def netPlaysCard : Claim7 := { stood := { row := netPlaysRow, standIns := [], harness := (true, "d06b1bb8f14b9575952cbade75c4490588a28ba60c0b83e7e3fdce8140d610ef"), looks := true }, kinds := [], alts := [], laidByText := true, laidKinds := [.handle], laidTests := true, laidLooks := .later }
def NetPlaysCardSaid : Prop := Claim7.holds Tryd.pinned (.plain (OpenSpec.ofChange netPlaysSpec)) netPlaysCard

/-- THE TIED CARD OF 'noonlaw2.NetHolds'. -/
def netHoldsCard : Claim7 := { stood := { row := netHoldsRow, standIns := [], harness := (true, "d06b1bb8f14b9575952cbade75c4490588a28ba60c0b83e7e3fdce8140d610ef"), looks := true }, kinds := [], alts := [], laidByText := true, laidKinds := [.handle], laidTests := true, laidLooks := .later }
def NetHoldsCardSaid : Prop := Claim7.holds Tryd.pinned (.plain (OpenSpec.ofChange netHoldsSpec)) netHoldsCard

/-- THE SECOND FORM's CARD OF 'noonlaw2.NetPlays'. -/
def netPlaysUptoCard : Claim7 := { stood := { row := netPlaysUptoRow, standIns := [], harness := (true, "d06b1bb8f14b9575952cbade75c4490588a28ba60c0b83e7e3fdce8140d610ef"), looks := true }, kinds := [], alts := [], laidByText := true, laidKinds := [.handle], laidTests := true, laidLooks := .later }
def NetPlaysUptoCardSaid : Prop := Claim7.holds Tryd.pinned (.plain (OpenSpec.upto netPlaysSpec)) netPlaysUptoCard

/-- THE SECOND FORM's CARD OF 'noonlaw2.NetHolds'. -/
def netHoldsUptoCard : Claim7 := { stood := { row := netHoldsUptoRow, standIns := [], harness := (true, "d06b1bb8f14b9575952cbade75c4490588a28ba60c0b83e7e3fdce8140d610ef"), looks := true }, kinds := [], alts := [], laidByText := true, laidKinds := [.handle], laidTests := true, laidLooks := .later }
def NetHoldsUptoCardSaid : Prop := Claim7.holds Tryd.pinned (.plain (OpenSpec.upto netHoldsSpec)) netHoldsUptoCard
end Rows
end Go.Proofs.YtmficdfihogffaaDoor
