/-
  DERIVED. GIVEN WITH THE SEED: THE CARDS: each row of YtepfbgbdcljlmaaDoorRows.lean that lists a variable, with what it lists TIED to the program's text (the seventh form; the later family's looks); each row that meets fmt, with fmt's text TOLD by the authors' own Lean function (tested against real Go, not proved from fmt's source: count such statements apart). THE CARD IS WHAT COUNTS. Prove the row's statement (the work); the ties are given (YtepfbgbdcljlmaaDoorTie.lean); close each card by the builder's one call (the guide's Derived/Test/ToyasCard.lean, 'card_holds'). Laid BY PROGRAM, IN A SANDBOX (cutbox-door.mjs). By AI agents, Wed Nov 11 2026. No macro, syntax, notation, axiom, sorry.
-/
import Derived.Test.YtepfbgbdcljlmaaDoorRows
import GoSem.ClaimSeven
namespace Go.Proofs.YtepfbgbdcljlmaaDoor
namespace Rows

/-- THE TIED CARD OF 'noonlaw4.TreeAll'. -/
def treeAllCard : Claim7 := { stood := { row := treeAllRow, standIns := [], harness := (true, "bfa8226e0ed9cbe2637fa52318a9c672cddbff9674fb400b21172d1f0fa56bf6"), looks := true }, kinds := [], alts := [], laidByText := true, laidKinds := [.handle], laidTests := true, laidLooks := .later }
def TreeAllCardSaid : Prop := Claim7.holds Tryd.pinned (.plain (OpenSpec.ofChange treeAllSpec)) treeAllCard

/-- THE TIED CARD OF 'noonlaw1.TreeTells'. -/
def treeTellsCard : Claim7 := { stood := { row := treeTellsRow, standIns := [], harness := (true, "bfa8226e0ed9cbe2637fa52318a9c672cddbff9674fb400b21172d1f0fa56bf6"), looks := true }, kinds := [], alts := [], laidByText := true, laidKinds := [.handle], laidTests := true, laidLooks := .later }
def TreeTellsCardSaid : Prop := Claim7.holds Tryd.pinned (.plain (OpenSpec.ofChange treeTellsSpec)) treeTellsCard

/-- THE TIED CARD OF 'noonlaw1.TreeWider'. -/
def treeWiderCard : Claim7 := { stood := { row := treeWiderRow, standIns := [], harness := (true, "bfa8226e0ed9cbe2637fa52318a9c672cddbff9674fb400b21172d1f0fa56bf6"), looks := true }, kinds := [], alts := [], laidByText := true, laidKinds := [.handle], laidTests := true, laidLooks := .later }
def TreeWiderCardSaid : Prop := Claim7.holds Tryd.pinned (.plain (OpenSpec.ofChange treeWiderSpec)) treeWiderCard

/-- THE SECOND FORM's CARD OF 'noonlaw4.TreeAll'. -/
def treeAllUptoCard : Claim7 := { stood := { row := treeAllUptoRow, standIns := [], harness := (true, "bfa8226e0ed9cbe2637fa52318a9c672cddbff9674fb400b21172d1f0fa56bf6"), looks := true }, kinds := [], alts := [], laidByText := true, laidKinds := [.handle], laidTests := true, laidLooks := .later }
def TreeAllUptoCardSaid : Prop := Claim7.holds Tryd.pinned (.plain (OpenSpec.upto treeAllSpec)) treeAllUptoCard

/-- THE SECOND FORM's CARD OF 'noonlaw1.TreeTells'. -/
def treeTellsUptoCard : Claim7 := { stood := { row := treeTellsUptoRow, standIns := [], harness := (true, "bfa8226e0ed9cbe2637fa52318a9c672cddbff9674fb400b21172d1f0fa56bf6"), looks := true }, kinds := [], alts := [], laidByText := true, laidKinds := [.handle], laidTests := true, laidLooks := .later }
def TreeTellsUptoCardSaid : Prop := Claim7.holds Tryd.pinned (.plain (OpenSpec.upto treeTellsSpec)) treeTellsUptoCard

/-- THE SECOND FORM's CARD OF 'noonlaw1.TreeWider'. -/
def treeWiderUptoCard : Claim7 := { stood := { row := treeWiderUptoRow, standIns := [], harness := (true, "bfa8226e0ed9cbe2637fa52318a9c672cddbff9674fb400b21172d1f0fa56bf6"), looks := true }, kinds := [], alts := [], laidByText := true, laidKinds := [.handle], laidTests := true, laidLooks := .later }
def TreeWiderUptoCardSaid : Prop := Claim7.holds Tryd.pinned (.plain (OpenSpec.upto treeWiderSpec)) treeWiderUptoCard
end Rows
end Go.Proofs.YtepfbgbdcljlmaaDoor
