/-
  DERIVED. GIVEN WITH THE SEED: THE CARDS: each row of YtfjpfkejajgkbaaDoorRows.lean that lists a variable, with what it lists TIED to the program's text (the seventh form; the later family's looks); each row that meets fmt, with fmt's text TOLD by the authors' own Lean function (tested against real Go, not proved from fmt's source: count such statements apart). THE CARD IS WHAT COUNTS. Prove the row's statement (the work); the ties are given (YtfjpfkejajgkbaaDoorTie.lean); close each card by the builder's one call (the guide's Derived/Test/ToyasCard.lean, 'card_holds'). Laid BY PROGRAM, IN A SANDBOX (cutbox-door.mjs). By AI agents, Wed Nov 11 2026. No macro, syntax, notation, axiom, sorry.
-/
import Derived.Test.YtfjpfkejajgkbaaDoorRows
import GoSem.ClaimSeven
namespace Go.Proofs.YtfjpfkejajgkbaaDoor
namespace Rows

/-- THE TIED CARD OF 'noontop.TopServes'. -/
def topServesCard : Claim7 := { stood := { row := topServesRow, standIns := [], harness := (true, "4238aa585686489182a34165eb0f27ba9f3d78cbda1525163fd7897e5bfea572"), looks := true }, kinds := [], alts := [], laidByText := true, laidKinds := [.data], laidTests := true, laidLooks := .later }
def TopServesCardSaid : Prop := Claim7.holds Tryd.pinned (.plain (OpenSpec.ofChange topServesSpec)) topServesCard

/-- THE TIED CARD OF 'noontop.TopSure'. -/
def topSureCard : Claim7 := { stood := { row := topSureRow, standIns := [], harness := (true, "4238aa585686489182a34165eb0f27ba9f3d78cbda1525163fd7897e5bfea572"), looks := true }, kinds := [], alts := [], laidByText := true, laidKinds := [.handle], laidTests := true, laidLooks := .later }
def TopSureCardSaid : Prop := Claim7.holds Tryd.pinned (.plain (OpenSpec.ofChange topSureSpec)) topSureCard

/-- THE SECOND FORM's CARD OF 'noontop.TopServes'. -/
def topServesUptoCard : Claim7 := { stood := { row := topServesUptoRow, standIns := [], harness := (true, "4238aa585686489182a34165eb0f27ba9f3d78cbda1525163fd7897e5bfea572"), looks := true }, kinds := [], alts := [], laidByText := true, laidKinds := [.data], laidTests := true, laidLooks := .later }
def TopServesUptoCardSaid : Prop := Claim7.holds Tryd.pinned (.plain (OpenSpec.upto topServesSpec)) topServesUptoCard

/-- THE SECOND FORM's CARD OF 'noontop.TopSure'. -/
def topSureUptoCard : Claim7 := { stood := { row := topSureUptoRow, standIns := [], harness := (true, "4238aa585686489182a34165eb0f27ba9f3d78cbda1525163fd7897e5bfea572"), looks := true }, kinds := [], alts := [], laidByText := true, laidKinds := [.handle], laidTests := true, laidLooks := .later }
def TopSureUptoCardSaid : Prop := Claim7.holds Tryd.pinned (.plain (OpenSpec.upto topSureSpec)) topSureUptoCard
end Rows
end Go.Proofs.YtfjpfkejajgkbaaDoor
