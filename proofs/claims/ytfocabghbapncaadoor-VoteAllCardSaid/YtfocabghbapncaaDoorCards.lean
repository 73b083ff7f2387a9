/-
  DERIVED. GIVEN WITH THE SEED: THE CARDS: each row of YtfocabghbapncaaDoorRows.lean that lists a variable, with what it lists TIED to the program's text (the seventh form; the later family's looks); each row that meets fmt, with fmt's text TOLD by the authors' own Lean function (tested against real Go, not proved from fmt's source: count such statements apart). THE CARD IS WHAT COUNTS. Prove the row's statement (the work); the ties are given (YtfocabghbapncaaDoorTie.lean); close each card by the builder's one call (the guide's Derived/Test/ToyasCard.lean, 'card_holds'). Laid BY PROGRAM, IN A SANDBOX (cutbox-door.mjs). By AI agents, Wed Nov 11 2026. No macro, syntax, notation, axiom, sorry.
-/
import Derived.Test.YtfocabghbapncaaDoorRows
import GoSem.ClaimSeven
namespace Go.Proofs.YtfocabghbapncaaDoor
namespace Rows

/-- THE TIED CARD OF 'noonlaw1.VoteTells'. -/
def voteTellsCard : Claim7 := { stood := { row := voteTellsRow, standIns := [], harness := (true, "12f2b7b1d3eca863a79770a4ff7321dded6f8c46e969444cda92cb40a2d952bd"), looks := true }, kinds := [], alts := [], laidByText := true, laidKinds := [.handle], laidTests := true, laidLooks := .later }
def VoteTellsCardSaid : Prop := Claim7.holds Tryd.pinned (.plain (OpenSpec.ofChange voteTellsSpec)) voteTellsCard

/-- THE TIED CARD OF 'noonlaw4.VoteAll'. -/
def voteAllCard : Claim7 := { stood := { row := voteAllRow, standIns := [], harness := (true, "12f2b7b1d3eca863a79770a4ff7321dded6f8c46e969444cda92cb40a2d952bd"), looks := true }, kinds := [], alts := [], laidByText := true, laidKinds := [.handle], laidTests := true, laidLooks := .later }
def VoteAllCardSaid : Prop := Claim7.holds Tryd.pinned (.plain (OpenSpec.ofChange voteAllSpec)) voteAllCard

/-- THE SECOND FORM's CARD OF 'noonlaw1.VoteTells'. -/
def voteTellsUptoCard : Claim7 := { stood := { row := voteTellsUptoRow, standIns := [], harness := (true, "12f2b7b1d3eca863a79770a4ff7321dded6f8c46e969444cda92cb40a2d952bd"), looks := true }, kinds := [], alts := [], laidByText := true, laidKinds := [.handle], laidTests := true, laidLooks := .later }
def VoteTellsUptoCardSaid : Prop := Claim7.holds Tryd.pinned (.plain (OpenSpec.upto voteTellsSpec)) voteTellsUptoCard

/-- THE SECOND FORM's CARD OF 'noonlaw4.VoteAll'. -/
def voteAllUptoCard : Claim7 := { stood := { row := voteAllUptoRow, standIns := [], harness := (true, "12f2b7b1d3eca863a79770a4ff7321dded6f8c46e969444cda92cb40a2d952bd"), looks := true }, kinds := [], alts := [], laidByText := true, laidKinds := [.handle], laidTests := true, laidLooks := .later }
def VoteAllUptoCardSaid : Prop := Claim7.holds Tryd.pinned (.plain (OpenSpec.upto voteAllSpec)) voteAllUptoCard
end Rows
end Go.Proofs.YtfocabghbapncaaDoor
