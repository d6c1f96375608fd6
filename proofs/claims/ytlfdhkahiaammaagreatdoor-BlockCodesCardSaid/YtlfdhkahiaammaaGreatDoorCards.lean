/-
  DERIVED. GIVEN WITH THE SEED: THE CARDS: each row of YtlfdhkahiaammaaGreatDoorRows.lean that lists a variable, with what it lists TIED to the program's text (the seventh form; the later family's looks); each row that meets fmt, with fmt's text TOLD by the authors' own Lean function (tested against real Go, not proved from fmt's source: count such statements apart). THE CARD IS WHAT COUNTS. Prove the row's statement (the work); the ties are given (YtlfdhkahiaammaaGreatDoorTie.lean); close each card by the builder's one call (the guide's Derived/Test/ToyasCard.lean, 'card_holds'). Laid BY PROGRAM, IN A SANDBOX (cutbox-door.mjs). By AI agents, Wed Nov 11 2026. No macro, syntax, notation, axiom, sorry.
-/
import Derived.Test.YtlfdhkahiaammaaGreatDoorRows
import GoSem.ClaimSeven
namespace Go.Proofs.YtlfdhkahiaammaaGreatDoor
namespace Rows

/-- THE TIED CARD OF 'pharoslaw21.BlockCodes'. -/
def blockCodesCard : Claim7 := { stood := { row := blockCodesRow, standIns := [], harness := (true, "c41aeba0543231530877678fe66f27514495c131341c4c0d71e0d34acd501897"), looks := false }, kinds := [], alts := [], laidByText := true, laidKinds := [.data], laidTests := true, laidLooks := .later }
def BlockCodesCardSaid : Prop := Claim7.holds Tryz.pinned (.plain (OpenSpec.ofChange blockCodesSpec)) blockCodesCard

/-- THE TIED CARD OF 'pharoslaw22.VoteCodes'. -/
def voteCodesCard : Claim7 := { stood := { row := voteCodesRow, standIns := [], harness := (true, "c41aeba0543231530877678fe66f27514495c131341c4c0d71e0d34acd501897"), looks := false }, kinds := [], alts := [], laidByText := true, laidKinds := [.data], laidTests := true, laidLooks := .later }
def VoteCodesCardSaid : Prop := Claim7.holds Tryz.pinned (.plain (OpenSpec.ofChange voteCodesSpec)) voteCodesCard

/-- THE SECOND FORM's CARD OF 'pharoslaw21.BlockCodes'. -/
def blockCodesUptoCard : Claim7 := { stood := { row := blockCodesUptoRow, standIns := [], harness := (true, "c41aeba0543231530877678fe66f27514495c131341c4c0d71e0d34acd501897"), looks := false }, kinds := [], alts := [], laidByText := true, laidKinds := [.data], laidTests := true, laidLooks := .later }
def BlockCodesUptoCardSaid : Prop := Claim7.holds Tryz.pinned (.plain (OpenSpec.upto blockCodesSpec)) blockCodesUptoCard

/-- THE SECOND FORM's CARD OF 'pharoslaw22.VoteCodes'. -/
def voteCodesUptoCard : Claim7 := { stood := { row := voteCodesUptoRow, standIns := [], harness := (true, "c41aeba0543231530877678fe66f27514495c131341c4c0d71e0d34acd501897"), looks := false }, kinds := [], alts := [], laidByText := true, laidKinds := [.data], laidTests := true, laidLooks := .later }
def VoteCodesUptoCardSaid : Prop := Claim7.holds Tryz.pinned (.plain (OpenSpec.upto voteCodesSpec)) voteCodesUptoCard
end Rows
end Go.Proofs.YtlfdhkahiaammaaGreatDoor
