/-
  DERIVED. GIVEN WITH THE SEED: THE CARDS: each row of YtjlpknligekfeaaDoorRows.lean that lists a variable, with what it lists TIED to the program's text (the seventh form; the later family's looks); each row that meets fmt, with fmt's text TOLD by the authors' own Lean function (tested against real Go, not proved from fmt's source: count such statements apart). THE CARD IS WHAT COUNTS. Prove the row's statement (the work); the ties are given (YtjlpknligekfeaaDoorTie.lean); close each card by the builder's one call (the guide's Derived/Test/ToyasCard.lean, 'card_holds'). Laid BY PROGRAM, IN A SANDBOX (cutbox-door.mjs). By AI agents, Wed Nov 11 2026. No macro, syntax, notation, axiom, sorry.
-/
import Derived.Test.YtjlpknligekfeaaDoorRows
import GoSem.ClaimSeven
namespace Go.Proofs.YtjlpknligekfeaaDoor
namespace Rows

/-- THE TIED CARD OF 'pharoslaw03.ShaBlocks'. -/
def shaBlocksCard : Claim7 := { stood := { row := shaBlocksRow, standIns := [], harness := (true, "d6ef6d9b923b5bdc2452be88c2906c1cda6eb2e14cd3e58b105e6ecff64ae8fb"), looks := false }, kinds := [], alts := [], laidByText := true, laidKinds := [.data], laidTests := true, laidLooks := .later }
def ShaBlocksCardSaid : Prop := Claim7.holds Tryd.pinned (.plain (OpenSpec.ofChange shaBlocksSpec)) shaBlocksCard

/-- THE TIED CARD OF 'pharoslaw03.ShaSums'. -/
def shaSumsCard : Claim7 := { stood := { row := shaSumsRow, standIns := [], harness := (true, "d6ef6d9b923b5bdc2452be88c2906c1cda6eb2e14cd3e58b105e6ecff64ae8fb"), looks := false }, kinds := [], alts := [], laidByText := true, laidKinds := [.data], laidTests := true, laidLooks := .later }
def ShaSumsCardSaid : Prop := Claim7.holds Tryd.pinned (.plain (OpenSpec.ofChange shaSumsSpec)) shaSumsCard

/-- THE TIED CARD OF 'pharoslaw03.ShaPieces'. -/
def shaPiecesCard : Claim7 := { stood := { row := shaPiecesRow, standIns := [], harness := (true, "d6ef6d9b923b5bdc2452be88c2906c1cda6eb2e14cd3e58b105e6ecff64ae8fb"), looks := false }, kinds := [], alts := [], laidByText := true, laidKinds := [.data], laidTests := true, laidLooks := .later }
def ShaPiecesCardSaid : Prop := Claim7.holds Tryd.pinned (.plain (OpenSpec.ofChange shaPiecesSpec)) shaPiecesCard

/-- THE TIED CARD OF 'pharoslaw03.ShaBlocksOf'. -/
def shaBlocksOfCard : Claim7 := { stood := { row := shaBlocksOfRow, standIns := [], harness := (true, "d6ef6d9b923b5bdc2452be88c2906c1cda6eb2e14cd3e58b105e6ecff64ae8fb"), looks := false }, kinds := [], alts := [], laidByText := true, laidKinds := [.data], laidTests := true, laidLooks := .later }
def ShaBlocksOfCardSaid : Prop := Claim7.holds Tryd.pinned (.plain (OpenSpec.ofChange shaBlocksOfSpec)) shaBlocksOfCard

/-- THE TIED CARD OF 'pharoslaw03.ShaAlone'. -/
def shaAloneCard : Claim7 := { stood := { row := shaAloneRow, standIns := [], harness := (true, "d6ef6d9b923b5bdc2452be88c2906c1cda6eb2e14cd3e58b105e6ecff64ae8fb"), looks := false }, kinds := [], alts := [], laidByText := true, laidKinds := [.data], laidTests := true, laidLooks := .later }
def ShaAloneCardSaid : Prop := Claim7.holds Tryd.pinned (.plain (OpenSpec.ofChange shaAloneSpec)) shaAloneCard

/-- THE SECOND FORM's CARD OF 'pharoslaw03.ShaBlocks'. -/
def shaBlocksUptoCard : Claim7 := { stood := { row := shaBlocksUptoRow, standIns := [], harness := (true, "d6ef6d9b923b5bdc2452be88c2906c1cda6eb2e14cd3e58b105e6ecff64ae8fb"), looks := false }, kinds := [], alts := [], laidByText := true, laidKinds := [.data], laidTests := true, laidLooks := .later }
def ShaBlocksUptoCardSaid : Prop := Claim7.holds Tryd.pinned (.plain (OpenSpec.upto shaBlocksSpec)) shaBlocksUptoCard

/-- THE SECOND FORM's CARD OF 'pharoslaw03.ShaSums'. -/
def shaSumsUptoCard : Claim7 := { stood := { row := shaSumsUptoRow, standIns := [], harness := (true, "d6ef6d9b923b5bdc2452be88c2906c1cda6eb2e14cd3e58b105e6ecff64ae8fb"), looks := false }, kinds := [], alts := [], laidByText := true, laidKinds := [.data], laidTests := true, laidLooks := .later }
def ShaSumsUptoCardSaid : Prop := Claim7.holds Tryd.pinned (.plain (OpenSpec.upto shaSumsSpec)) shaSumsUptoCard

/-- THE SECOND FORM's CARD OF 'pharoslaw03.ShaPieces'. -/
def shaPiecesUptoCard : Claim7 := { stood := { row := shaPiecesUptoRow, standIns := [], harness := (true, "d6ef6d9b923b5bdc2452be88c2906c1cda6eb2e14cd3e58b105e6ecff64ae8fb"), looks := false }, kinds := [], alts := [], laidByText := true, laidKinds := [.data], laidTests := true, laidLooks := .later }
def ShaPiecesUptoCardSaid : Prop := Claim7.holds Tryd.pinned (.plain (OpenSpec.upto shaPiecesSpec)) shaPiecesUptoCard

/-- THE SECOND FORM's CARD OF 'pharoslaw03.ShaBlocksOf'. -/
def shaBlocksOfUptoCard : Claim7 := { stood := { row := shaBlocksOfUptoRow, standIns := [], harness := (true, "d6ef6d9b923b5bdc2452be88c2906c1cda6eb2e14cd3e58b105e6ecff64ae8fb"), looks := false }, kinds := [], alts := [], laidByText := true, laidKinds := [.data], laidTests := true, laidLooks := .later }
def ShaBlocksOfUptoCardSaid : Prop := Claim7.holds Tryd.pinned (.plain (OpenSpec.upto shaBlocksOfSpec)) shaBlocksOfUptoCard

/-- THE SECOND FORM's CARD OF 'pharoslaw03.ShaAlone'. -/
def shaAloneUptoCard : Claim7 := { stood := { row := shaAloneUptoRow, standIns := [], harness := (true, "d6ef6d9b923b5bdc2452be88c2906c1cda6eb2e14cd3e58b105e6ecff64ae8fb"), looks := false }, kinds := [], alts := [], laidByText := true, laidKinds := [.data], laidTests := true, laidLooks := .later }
def ShaAloneUptoCardSaid : Prop := Claim7.holds Tryd.pinned (.plain (OpenSpec.upto shaAloneSpec)) shaAloneUptoCard
end Rows
end Go.Proofs.YtjlpknligekfeaaDoor
