/-
  DERIVED. GIVEN WITH THE SEED: THE CARDS: each row of YtdjkhagdckhijaaDoorRows.lean that lists a variable, with what it lists TIED to the program's text (the seventh form; the later family's looks); each row that meets fmt, with fmt's text TOLD by the authors' own Lean function (tested against real Go, not proved from fmt's source: count such statements apart). THE CARD IS WHAT COUNTS. Prove the row's statement (the work); the ties are given (YtdjkhagdckhijaaDoorTie.lean); close each card by the builder's one call (the guide's Derived/Test/ToyasCard.lean, 'card_holds'). Laid BY PROGRAM, IN A SANDBOX (cutbox-door.mjs). By AI agents, Wed Nov 11 2026. No macro, syntax, notation, axiom, sorry.
-/
import Derived.Test.YtdjkhagdckhijaaDoorRows
import GoSem.ClaimSeven
namespace Go.Proofs.YtdjkhagdckhijaaDoor
namespace Rows

/-- THE TIED CARD OF 'noonlaw4.HullLine'. -/
def hullLineCard : Claim7 := { stood := { row := hullLineRow, standIns := [], harness := (true, "169ef8291baae3a91f0f7ffc5a005e180bd80ee4af87e26f113b98f0d200ecb6"), looks := true }, kinds := [], alts := [], laidByText := true, laidKinds := [.handle], laidTests := true, laidLooks := .later }
def HullLineCardSaid : Prop := Claim7.holds Tryd.pinned (.plain (OpenSpec.ofChange hullLineSpec)) hullLineCard

/-- THE TIED CARD OF 'noonlaw1.HullTells'. -/
def hullTellsCard : Claim7 := { stood := { row := hullTellsRow, standIns := [], harness := (true, "169ef8291baae3a91f0f7ffc5a005e180bd80ee4af87e26f113b98f0d200ecb6"), looks := true }, kinds := [], alts := [], laidByText := true, laidKinds := [.handle], laidTests := true, laidLooks := .later }
def HullTellsCardSaid : Prop := Claim7.holds Tryd.pinned (.plain (OpenSpec.ofChange hullTellsSpec)) hullTellsCard

/-- THE SECOND FORM's CARD OF 'noonlaw4.HullLine'. -/
def hullLineUptoCard : Claim7 := { stood := { row := hullLineUptoRow, standIns := [], harness := (true, "169ef8291baae3a91f0f7ffc5a005e180bd80ee4af87e26f113b98f0d200ecb6"), looks := true }, kinds := [], alts := [], laidByText := true, laidKinds := [.handle], laidTests := true, laidLooks := .later }
def HullLineUptoCardSaid : Prop := Claim7.holds Tryd.pinned (.plain (OpenSpec.upto hullLineSpec)) hullLineUptoCard

/-- THE SECOND FORM's CARD OF 'noonlaw1.HullTells'. -/
def hullTellsUptoCard : Claim7 := { stood := { row := hullTellsUptoRow, standIns := [], harness := (true, "169ef8291baae3a91f0f7ffc5a005e180bd80ee4af87e26f113b98f0d200ecb6"), looks := true }, kinds := [], alts := [], laidByText := true, laidKinds := [.handle], laidTests := true, laidLooks := .later }
def HullTellsUptoCardSaid : Prop := Claim7.holds Tryd.pinned (.plain (OpenSpec.upto hullTellsSpec)) hullTellsUptoCard
end Rows
end Go.Proofs.YtdjkhagdckhijaaDoor
