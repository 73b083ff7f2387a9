/-
  DERIVED. GIVEN WITH THE SEED: THE CARDS: each row of YtmdadjmlmohjcaaDoorRows.lean that lists a variable, with what it lists TIED to the program's text (the seventh form; the later family's looks); each row that meets fmt, with fmt's text TOLD by the authors' own Lean function (tested against real Go, not proved from fmt's source: count such statements apart). THE CARD IS WHAT COUNTS. Prove the row's statement (the work); the ties are given (YtmdadjmlmohjcaaDoorTie.lean); close each card by the builder's one call (the guide's Derived/Test/ToyasCard.lean, 'card_holds'). Laid BY PROGRAM, IN A SANDBOX (cutbox-door.mjs). By AI agents, Wed Nov 11 2026. No macro, syntax, notation, axiom, sorry.
-/
import Derived.Test.YtmdadjmlmohjcaaDoorRows
import GoSem.ClaimSeven
namespace Go.Proofs.YtmdadjmlmohjcaaDoor
namespace Rows

/-- THE TIED CARD OF 'noonlaw4.BoundsChain'. -/
def boundsChainCard : Claim7 := { stood := { row := boundsChainRow, standIns := [], harness := (true, "f9d9b78de6214b3aa7718e7b9b6246456b589b3558d88ef9095c125ba3ef5fb6"), looks := true }, kinds := [], alts := [], laidByText := true, laidKinds := [.handle], laidTests := true, laidLooks := .later }
def BoundsChainCardSaid : Prop := Claim7.holds Tryd.pinned (.plain (OpenSpec.ofChange boundsChainSpec)) boundsChainCard

/-- THE TIED CARD OF 'noonlaw1.BoundsTell'. -/
def boundsTellCard : Claim7 := { stood := { row := boundsTellRow, standIns := [], harness := (true, "f9d9b78de6214b3aa7718e7b9b6246456b589b3558d88ef9095c125ba3ef5fb6"), looks := true }, kinds := [], alts := [], laidByText := true, laidKinds := [.handle], laidTests := true, laidLooks := .later }
def BoundsTellCardSaid : Prop := Claim7.holds Tryd.pinned (.plain (OpenSpec.ofChange boundsTellSpec)) boundsTellCard

/-- THE TIED CARD OF 'noonlaw1.BoundsHold'. -/
def boundsHoldCard : Claim7 := { stood := { row := boundsHoldRow, standIns := [], harness := (true, "f9d9b78de6214b3aa7718e7b9b6246456b589b3558d88ef9095c125ba3ef5fb6"), looks := true }, kinds := [], alts := [], laidByText := true, laidKinds := [.handle], laidTests := true, laidLooks := .later }
def BoundsHoldCardSaid : Prop := Claim7.holds Tryd.pinned (.plain (OpenSpec.ofChange boundsHoldSpec)) boundsHoldCard

/-- THE SECOND FORM's CARD OF 'noonlaw4.BoundsChain'. -/
def boundsChainUptoCard : Claim7 := { stood := { row := boundsChainUptoRow, standIns := [], harness := (true, "f9d9b78de6214b3aa7718e7b9b6246456b589b3558d88ef9095c125ba3ef5fb6"), looks := true }, kinds := [], alts := [], laidByText := true, laidKinds := [.handle], laidTests := true, laidLooks := .later }
def BoundsChainUptoCardSaid : Prop := Claim7.holds Tryd.pinned (.plain (OpenSpec.upto boundsChainSpec)) boundsChainUptoCard

/-- THE SECOND FORM's CARD OF 'noonlaw1.BoundsTell'. -/
def boundsTellUptoCard : Claim7 := { stood := { row := boundsTellUptoRow, standIns := [], harness := (true, "f9d9b78de6214b3aa7718e7b9b6246456b589b3558d88ef9095c125ba3ef5fb6"), looks := true }, kinds := [], alts := [], laidByText := true, laidKinds := [.handle], laidTests := true, laidLooks := .later }
def BoundsTellUptoCardSaid : Prop := Claim7.holds Tryd.pinned (.plain (OpenSpec.upto boundsTellSpec)) boundsTellUptoCard

/-- THE SECOND FORM's CARD OF 'noonlaw1.BoundsHold'. -/
def boundsHoldUptoCard : Claim7 := { stood := { row := boundsHoldUptoRow, standIns := [], harness := (true, "f9d9b78de6214b3aa7718e7b9b6246456b589b3558d88ef9095c125ba3ef5fb6"), looks := true }, kinds := [], alts := [], laidByText := true, laidKinds := [.handle], laidTests := true, laidLooks := .later }
def BoundsHoldUptoCardSaid : Prop := Claim7.holds Tryd.pinned (.plain (OpenSpec.upto boundsHoldSpec)) boundsHoldUptoCard
end Rows
end Go.Proofs.YtmdadjmlmohjcaaDoor
