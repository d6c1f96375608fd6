/-
  DERIVED. GIVEN WITH THE SEED: THE CARDS: each row of YtlfdhkahiaammaaDoorRows.lean that lists a variable, with what it lists TIED to the program's text (the seventh form; the later family's looks); each row that meets fmt, with fmt's text TOLD by the authors' own Lean function (tested against real Go, not proved from fmt's source: count such statements apart). THE CARD IS WHAT COUNTS. Prove the row's statement (the work); the ties are given (YtlfdhkahiaammaaDoorTie.lean); close each card by the builder's one call (the guide's Derived/Test/ToyasCard.lean, 'card_holds'). Laid BY PROGRAM, IN A SANDBOX (cutbox-door.mjs). By AI agents, Wed Nov 11 2026. No macro, syntax, notation, axiom, sorry.
-/
import Derived.Test.YtlfdhkahiaammaaDoorRows
import GoSem.ClaimSeven
namespace Go.Proofs.YtlfdhkahiaammaaDoor
namespace Rows

/-- THE TIED CARD OF 'pharoslaw21.BlockBack'. -/
def blockBackCard : Claim7 := { stood := { row := blockBackRow, standIns := [], harness := (true, "626149ba66927667d4ebb17674b9a4857f6d4b56444679a037e8355b8f0ad4d9"), looks := false }, kinds := [], alts := [], laidByText := true, laidKinds := [.data], laidTests := true, laidLooks := .later }
def BlockBackCardSaid : Prop := Claim7.holds Tryd.pinned (.plain (OpenSpec.ofChange blockBackSpec)) blockBackCard

/-- THE TIED CARD OF 'pharoslaw21.BlockBinds'. -/
def blockBindsCard : Claim7 := { stood := { row := blockBindsRow, standIns := [], harness := (true, "626149ba66927667d4ebb17674b9a4857f6d4b56444679a037e8355b8f0ad4d9"), looks := false }, kinds := [], alts := [], laidByText := true, laidKinds := [.data], laidTests := true, laidLooks := .later }
def BlockBindsCardSaid : Prop := Claim7.holds Tryd.pinned (.plain (OpenSpec.ofChange blockBindsSpec)) blockBindsCard

/-- THE TIED CARD OF 'pharoslaw21.BlockJust'. -/
def blockJustCard : Claim7 := { stood := { row := blockJustRow, standIns := [], harness := (true, "626149ba66927667d4ebb17674b9a4857f6d4b56444679a037e8355b8f0ad4d9"), looks := false }, kinds := [], alts := [], laidByText := true, laidKinds := [.data], laidTests := true, laidLooks := .later }
def BlockJustCardSaid : Prop := Claim7.holds Tryd.pinned (.plain (OpenSpec.ofChange blockJustSpec)) blockJustCard

/-- THE TIED CARD OF 'pharoslaw22.VoteBack'. -/
def voteBackCard : Claim7 := { stood := { row := voteBackRow, standIns := [], harness := (true, "626149ba66927667d4ebb17674b9a4857f6d4b56444679a037e8355b8f0ad4d9"), looks := false }, kinds := [], alts := [], laidByText := true, laidKinds := [.data], laidTests := true, laidLooks := .later }
def VoteBackCardSaid : Prop := Claim7.holds Tryd.pinned (.plain (OpenSpec.ofChange voteBackSpec)) voteBackCard

/-- THE TIED CARD OF 'pharoslaw22.VoteUnlike'. -/
def voteUnlikeCard : Claim7 := { stood := { row := voteUnlikeRow, standIns := [], harness := (true, "626149ba66927667d4ebb17674b9a4857f6d4b56444679a037e8355b8f0ad4d9"), looks := false }, kinds := [], alts := [], laidByText := true, laidKinds := [.data], laidTests := true, laidLooks := .later }
def VoteUnlikeCardSaid : Prop := Claim7.holds Tryd.pinned (.plain (OpenSpec.ofChange voteUnlikeSpec)) voteUnlikeCard

/-- THE TIED CARD OF 'pharoslaw22.VoteBare'. -/
def voteBareCard : Claim7 := { stood := { row := voteBareRow, standIns := [], harness := (true, "626149ba66927667d4ebb17674b9a4857f6d4b56444679a037e8355b8f0ad4d9"), looks := false }, kinds := [], alts := [], laidByText := true, laidKinds := [.data], laidTests := true, laidLooks := .later }
def VoteBareCardSaid : Prop := Claim7.holds Tryd.pinned (.plain (OpenSpec.ofChange voteBareSpec)) voteBareCard

/-- THE SECOND FORM's CARD OF 'pharoslaw21.BlockBack'. -/
def blockBackUptoCard : Claim7 := { stood := { row := blockBackUptoRow, standIns := [], harness := (true, "626149ba66927667d4ebb17674b9a4857f6d4b56444679a037e8355b8f0ad4d9"), looks := false }, kinds := [], alts := [], laidByText := true, laidKinds := [.data], laidTests := true, laidLooks := .later }
def BlockBackUptoCardSaid : Prop := Claim7.holds Tryd.pinned (.plain (OpenSpec.upto blockBackSpec)) blockBackUptoCard

/-- THE SECOND FORM's CARD OF 'pharoslaw21.BlockBinds'. -/
def blockBindsUptoCard : Claim7 := { stood := { row := blockBindsUptoRow, standIns := [], harness := (true, "626149ba66927667d4ebb17674b9a4857f6d4b56444679a037e8355b8f0ad4d9"), looks := false }, kinds := [], alts := [], laidByText := true, laidKinds := [.data], laidTests := true, laidLooks := .later }
def BlockBindsUptoCardSaid : Prop := Claim7.holds Tryd.pinned (.plain (OpenSpec.upto blockBindsSpec)) blockBindsUptoCard

/-- THE SECOND FORM's CARD OF 'pharoslaw21.BlockJust'. -/
def blockJustUptoCard : Claim7 := { stood := { row := blockJustUptoRow, standIns := [], harness := (true, "626149ba66927667d4ebb17674b9a4857f6d4b56444679a037e8355b8f0ad4d9"), looks := false }, kinds := [], alts := [], laidByText := true, laidKinds := [.data], laidTests := true, laidLooks := .later }
def BlockJustUptoCardSaid : Prop := Claim7.holds Tryd.pinned (.plain (OpenSpec.upto blockJustSpec)) blockJustUptoCard

/-- THE SECOND FORM's CARD OF 'pharoslaw22.VoteBack'. -/
def voteBackUptoCard : Claim7 := { stood := { row := voteBackUptoRow, standIns := [], harness := (true, "626149ba66927667d4ebb17674b9a4857f6d4b56444679a037e8355b8f0ad4d9"), looks := false }, kinds := [], alts := [], laidByText := true, laidKinds := [.data], laidTests := true, laidLooks := .later }
def VoteBackUptoCardSaid : Prop := Claim7.holds Tryd.pinned (.plain (OpenSpec.upto voteBackSpec)) voteBackUptoCard

/-- THE SECOND FORM's CARD OF 'pharoslaw22.VoteUnlike'. -/
def voteUnlikeUptoCard : Claim7 := { stood := { row := voteUnlikeUptoRow, standIns := [], harness := (true, "626149ba66927667d4ebb17674b9a4857f6d4b56444679a037e8355b8f0ad4d9"), looks := false }, kinds := [], alts := [], laidByText := true, laidKinds := [.data], laidTests := true, laidLooks := .later }
def VoteUnlikeUptoCardSaid : Prop := Claim7.holds Tryd.pinned (.plain (OpenSpec.upto voteUnlikeSpec)) voteUnlikeUptoCard

/-- THE SECOND FORM's CARD OF 'pharoslaw22.VoteBare'. -/
def voteBareUptoCard : Claim7 := { stood := { row := voteBareUptoRow, standIns := [], harness := (true, "626149ba66927667d4ebb17674b9a4857f6d4b56444679a037e8355b8f0ad4d9"), looks := false }, kinds := [], alts := [], laidByText := true, laidKinds := [.data], laidTests := true, laidLooks := .later }
def VoteBareUptoCardSaid : Prop := Claim7.holds Tryd.pinned (.plain (OpenSpec.upto voteBareSpec)) voteBareUptoCard
end Rows
end Go.Proofs.YtlfdhkahiaammaaDoor
