/-
  DERIVED. GIVEN WITH THE SEED: THE CARDS: each row of YtccjomkgfadidaaDoorRows.lean that lists a variable, with what it lists TIED to the program's text (the seventh form; the later family's looks); each row that meets fmt, with fmt's text TOLD by the authors' own Lean function (tested against real Go, not proved from fmt's source: count such statements apart). THE CARD IS WHAT COUNTS. Prove the row's statement (the work); the ties are given (YtccjomkgfadidaaDoorTie.lean); close each card by the builder's one call (the guide's Derived/Test/ToyasCard.lean, 'card_holds'). Laid BY PROGRAM, IN A SANDBOX (cutbox-door.mjs). By AI agents, Wed Nov 11 2026. No macro, syntax, notation, axiom, sorry.
-/
import Derived.Test.YtccjomkgfadidaaDoorRows
import GoSem.ClaimSeven
namespace Go.Proofs.YtccjomkgfadidaaDoor
namespace Rows

/-- THE TIED CARD OF 'noonlaw1.LoopsTell'. -/
def loopsTellCard : Claim7 := { stood := { row := loopsTellRow, standIns := [], harness := (true, "771bc9fcf0928ae4a7322eef5acd71f561a40ef9a7d04d28351677fdc143b7d7"), looks := true }, kinds := [], alts := [], laidByText := true, laidKinds := [.handle], laidTests := true, laidLooks := .later }
def LoopsTellCardSaid : Prop := Claim7.holds Tryd.pinned (.plain (OpenSpec.ofChange loopsTellSpec)) loopsTellCard

/-- THE TIED CARD OF 'noonlaw4.LoopsAround'. -/
def loopsAroundCard : Claim7 := { stood := { row := loopsAroundRow, standIns := [], harness := (true, "771bc9fcf0928ae4a7322eef5acd71f561a40ef9a7d04d28351677fdc143b7d7"), looks := true }, kinds := [], alts := [], laidByText := true, laidKinds := [.handle], laidTests := true, laidLooks := .later }
def LoopsAroundCardSaid : Prop := Claim7.holds Tryd.pinned (.plain (OpenSpec.ofChange loopsAroundSpec)) loopsAroundCard

/-- THE TIED CARD OF 'noonlaw1.LoopsProve'. -/
def loopsProveCard : Claim7 := { stood := { row := loopsProveRow, standIns := [], harness := (true, "771bc9fcf0928ae4a7322eef5acd71f561a40ef9a7d04d28351677fdc143b7d7"), looks := true }, kinds := [], alts := [], laidByText := true, laidKinds := [.handle], laidTests := true, laidLooks := .later }
def LoopsProveCardSaid : Prop := Claim7.holds Tryd.pinned (.plain (OpenSpec.ofChange loopsProveSpec)) loopsProveCard

/-- THE SECOND FORM's CARD OF 'noonlaw1.LoopsTell'. -/
def loopsTellUptoCard : Claim7 := { stood := { row := loopsTellUptoRow, standIns := [], harness := (true, "771bc9fcf0928ae4a7322eef5acd71f561a40ef9a7d04d28351677fdc143b7d7"), looks := true }, kinds := [], alts := [], laidByText := true, laidKinds := [.handle], laidTests := true, laidLooks := .later }
def LoopsTellUptoCardSaid : Prop := Claim7.holds Tryd.pinned (.plain (OpenSpec.upto loopsTellSpec)) loopsTellUptoCard

/-- THE SECOND FORM's CARD OF 'noonlaw4.LoopsAround'. -/
def loopsAroundUptoCard : Claim7 := { stood := { row := loopsAroundUptoRow, standIns := [], harness := (true, "771bc9fcf0928ae4a7322eef5acd71f561a40ef9a7d04d28351677fdc143b7d7"), looks := true }, kinds := [], alts := [], laidByText := true, laidKinds := [.handle], laidTests := true, laidLooks := .later }
def LoopsAroundUptoCardSaid : Prop := Claim7.holds Tryd.pinned (.plain (OpenSpec.upto loopsAroundSpec)) loopsAroundUptoCard

/-- THE SECOND FORM's CARD OF 'noonlaw1.LoopsProve'. -/
def loopsProveUptoCard : Claim7 := { stood := { row := loopsProveUptoRow, standIns := [], harness := (true, "771bc9fcf0928ae4a7322eef5acd71f561a40ef9a7d04d28351677fdc143b7d7"), looks := true }, kinds := [], alts := [], laidByText := true, laidKinds := [.handle], laidTests := true, laidLooks := .later }
def LoopsProveUptoCardSaid : Prop := Claim7.holds Tryd.pinned (.plain (OpenSpec.upto loopsProveSpec)) loopsProveUptoCard
end Rows
end Go.Proofs.YtccjomkgfadidaaDoor
