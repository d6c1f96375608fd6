/-
  DERIVED. GIVEN WITH THE SEED: THE CARDS: each row of YtmlncbdfbodjoaaDoorRows.lean that lists a variable, with what it lists TIED to the program's text (the seventh form; the later family's looks); each row that meets fmt, with fmt's text TOLD by the authors' own Lean function (tested against real Go, not proved from fmt's source: count such statements apart). THE CARD IS WHAT COUNTS. Prove the row's statement (the work); the ties are given (YtmlncbdfbodjoaaDoorTie.lean); close each card by the builder's one call (the guide's Derived/Test/ToyasCard.lean, 'card_holds'). Laid BY PROGRAM, IN A SANDBOX (cutbox-door.mjs). By AI agents, Wed Nov 11 2026. No macro, syntax, notation, axiom, sorry.
-/
import Derived.Test.YtmlncbdfbodjoaaDoorRows
import GoSem.ClaimSeven
namespace Go.Proofs.YtmlncbdfbodjoaaDoor
namespace Rows

/-- THE TIED CARD OF 'pharoslaw15.TxCodes'. -/
def txCodesCard : Claim7 := { stood := { row := txCodesRow, standIns := [], harness := (true, "a3d537707ec07c4ea7ab26648c0e3e28f5c3857cc94e408a22d1ec1634262699"), looks := false }, kinds := [], alts := [], laidByText := true, laidKinds := [.data], laidTests := true, laidLooks := .later }
def TxCodesCardSaid : Prop := Claim7.holds Tryd.pinned (.plain (OpenSpec.ofChange txCodesSpec)) txCodesCard

/-- THE TIED CARD OF 'pharoslaw15.TxBack'. -/
def txBackCard : Claim7 := { stood := { row := txBackRow, standIns := [], harness := (true, "a3d537707ec07c4ea7ab26648c0e3e28f5c3857cc94e408a22d1ec1634262699"), looks := false }, kinds := [], alts := [], laidByText := true, laidKinds := [.data], laidTests := true, laidLooks := .later }
def TxBackCardSaid : Prop := Claim7.holds Tryd.pinned (.plain (OpenSpec.ofChange txBackSpec)) txBackCard

/-- THE TIED CARD OF 'pharoslaw15.TxOne'. -/
def txOneCard : Claim7 := { stood := { row := txOneRow, standIns := [], harness := (true, "a3d537707ec07c4ea7ab26648c0e3e28f5c3857cc94e408a22d1ec1634262699"), looks := false }, kinds := [], alts := [], laidByText := true, laidKinds := [.data], laidTests := true, laidLooks := .later }
def TxOneCardSaid : Prop := Claim7.holds Tryd.pinned (.plain (OpenSpec.ofChange txOneSpec)) txOneCard

/-- THE TIED CARD OF 'pharoslaw19.HeaderUnlike'. -/
def headerUnlikeCard : Claim7 := { stood := { row := headerUnlikeRow, standIns := [], harness := (true, "a3d537707ec07c4ea7ab26648c0e3e28f5c3857cc94e408a22d1ec1634262699"), looks := false }, kinds := [], alts := [], laidByText := true, laidKinds := [.data], laidTests := true, laidLooks := .later }
def HeaderUnlikeCardSaid : Prop := Claim7.holds Tryd.pinned (.plain (OpenSpec.ofChange headerUnlikeSpec)) headerUnlikeCard

/-- THE TIED CARD OF 'pharoslaw19.HeaderLinks'. -/
def headerLinksCard : Claim7 := { stood := { row := headerLinksRow, standIns := [], harness := (true, "a3d537707ec07c4ea7ab26648c0e3e28f5c3857cc94e408a22d1ec1634262699"), looks := false }, kinds := [], alts := [], laidByText := true, laidKinds := [.data], laidTests := true, laidLooks := .later }
def HeaderLinksCardSaid : Prop := Claim7.holds Tryd.pinned (.plain (OpenSpec.ofChange headerLinksSpec)) headerLinksCard

/-- THE TIED CARD OF 'pharoslaw15.TxLists'. -/
def txListsCard : Claim7 := { stood := { row := txListsRow, standIns := [], harness := (true, "a3d537707ec07c4ea7ab26648c0e3e28f5c3857cc94e408a22d1ec1634262699"), looks := false }, kinds := [], alts := [], laidByText := true, laidKinds := [.data], laidTests := true, laidLooks := .later }
def TxListsCardSaid : Prop := Claim7.holds Tryd.pinned (.plain (OpenSpec.ofChange txListsSpec)) txListsCard

/-- THE TIED CARD OF 'pharoslaw15.TxAll'. -/
def txAllCard : Claim7 := { stood := { row := txAllRow, standIns := [], harness := (true, "a3d537707ec07c4ea7ab26648c0e3e28f5c3857cc94e408a22d1ec1634262699"), looks := false }, kinds := [], alts := [], laidByText := true, laidKinds := [.data], laidTests := true, laidLooks := .later }
def TxAllCardSaid : Prop := Claim7.holds Tryd.pinned (.plain (OpenSpec.ofChange txAllSpec)) txAllCard

/-- THE TIED CARD OF 'pharoslaw19.HeaderCodes'. -/
def headerCodesCard : Claim7 := { stood := { row := headerCodesRow, standIns := [], harness := (true, "a3d537707ec07c4ea7ab26648c0e3e28f5c3857cc94e408a22d1ec1634262699"), looks := false }, kinds := [], alts := [], laidByText := true, laidKinds := [.data], laidTests := true, laidLooks := .later }
def HeaderCodesCardSaid : Prop := Claim7.holds Tryd.pinned (.plain (OpenSpec.ofChange headerCodesSpec)) headerCodesCard

/-- THE TIED CARD OF 'pharoslaw19.HeaderBack'. -/
def headerBackCard : Claim7 := { stood := { row := headerBackRow, standIns := [], harness := (true, "a3d537707ec07c4ea7ab26648c0e3e28f5c3857cc94e408a22d1ec1634262699"), looks := false }, kinds := [], alts := [], laidByText := true, laidKinds := [.data], laidTests := true, laidLooks := .later }
def HeaderBackCardSaid : Prop := Claim7.holds Tryd.pinned (.plain (OpenSpec.ofChange headerBackSpec)) headerBackCard

/-- THE SECOND FORM's CARD OF 'pharoslaw15.TxCodes'. -/
def txCodesUptoCard : Claim7 := { stood := { row := txCodesUptoRow, standIns := [], harness := (true, "a3d537707ec07c4ea7ab26648c0e3e28f5c3857cc94e408a22d1ec1634262699"), looks := false }, kinds := [], alts := [], laidByText := true, laidKinds := [.data], laidTests := true, laidLooks := .later }
def TxCodesUptoCardSaid : Prop := Claim7.holds Tryd.pinned (.plain (OpenSpec.upto txCodesSpec)) txCodesUptoCard

/-- THE SECOND FORM's CARD OF 'pharoslaw15.TxBack'. -/
def txBackUptoCard : Claim7 := { stood := { row := txBackUptoRow, standIns := [], harness := (true, "a3d537707ec07c4ea7ab26648c0e3e28f5c3857cc94e408a22d1ec1634262699"), looks := false }, kinds := [], alts := [], laidByText := true, laidKinds := [.data], laidTests := true, laidLooks := .later }
def TxBackUptoCardSaid : Prop := Claim7.holds Tryd.pinned (.plain (OpenSpec.upto txBackSpec)) txBackUptoCard

/-- THE SECOND FORM's CARD OF 'pharoslaw15.TxOne'. -/
def txOneUptoCard : Claim7 := { stood := { row := txOneUptoRow, standIns := [], harness := (true, "a3d537707ec07c4ea7ab26648c0e3e28f5c3857cc94e408a22d1ec1634262699"), looks := false }, kinds := [], alts := [], laidByText := true, laidKinds := [.data], laidTests := true, laidLooks := .later }
def TxOneUptoCardSaid : Prop := Claim7.holds Tryd.pinned (.plain (OpenSpec.upto txOneSpec)) txOneUptoCard

/-- THE SECOND FORM's CARD OF 'pharoslaw19.HeaderUnlike'. -/
def headerUnlikeUptoCard : Claim7 := { stood := { row := headerUnlikeUptoRow, standIns := [], harness := (true, "a3d537707ec07c4ea7ab26648c0e3e28f5c3857cc94e408a22d1ec1634262699"), looks := false }, kinds := [], alts := [], laidByText := true, laidKinds := [.data], laidTests := true, laidLooks := .later }
def HeaderUnlikeUptoCardSaid : Prop := Claim7.holds Tryd.pinned (.plain (OpenSpec.upto headerUnlikeSpec)) headerUnlikeUptoCard

/-- THE SECOND FORM's CARD OF 'pharoslaw19.HeaderLinks'. -/
def headerLinksUptoCard : Claim7 := { stood := { row := headerLinksUptoRow, standIns := [], harness := (true, "a3d537707ec07c4ea7ab26648c0e3e28f5c3857cc94e408a22d1ec1634262699"), looks := false }, kinds := [], alts := [], laidByText := true, laidKinds := [.data], laidTests := true, laidLooks := .later }
def HeaderLinksUptoCardSaid : Prop := Claim7.holds Tryd.pinned (.plain (OpenSpec.upto headerLinksSpec)) headerLinksUptoCard

/-- THE SECOND FORM's CARD OF 'pharoslaw15.TxLists'. -/
def txListsUptoCard : Claim7 := { stood := { row := txListsUptoRow, standIns := [], harness := (true, "a3d537707ec07c4ea7ab26648c0e3e28f5c3857cc94e408a22d1ec1634262699"), looks := false }, kinds := [], alts := [], laidByText := true, laidKinds := [.data], laidTests := true, laidLooks := .later }
def TxListsUptoCardSaid : Prop := Claim7.holds Tryd.pinned (.plain (OpenSpec.upto txListsSpec)) txListsUptoCard

/-- THE SECOND FORM's CARD OF 'pharoslaw15.TxAll'. -/
def txAllUptoCard : Claim7 := { stood := { row := txAllUptoRow, standIns := [], harness := (true, "a3d537707ec07c4ea7ab26648c0e3e28f5c3857cc94e408a22d1ec1634262699"), looks := false }, kinds := [], alts := [], laidByText := true, laidKinds := [.data], laidTests := true, laidLooks := .later }
def TxAllUptoCardSaid : Prop := Claim7.holds Tryd.pinned (.plain (OpenSpec.upto txAllSpec)) txAllUptoCard

/-- THE SECOND FORM's CARD OF 'pharoslaw19.HeaderCodes'. -/
def headerCodesUptoCard : Claim7 := { stood := { row := headerCodesUptoRow, standIns := [], harness := (true, "a3d537707ec07c4ea7ab26648c0e3e28f5c3857cc94e408a22d1ec1634262699"), looks := false }, kinds := [], alts := [], laidByText := true, laidKinds := [.data], laidTests := true, laidLooks := .later }
def HeaderCodesUptoCardSaid : Prop := Claim7.holds Tryd.pinned (.plain (OpenSpec.upto headerCodesSpec)) headerCodesUptoCard

/-- THE SECOND FORM's CARD OF 'pharoslaw19.HeaderBack'. -/
def headerBackUptoCard : Claim7 := { stood := { row := headerBackUptoRow, standIns := [], harness := (true, "a3d537707ec07c4ea7ab26648c0e3e28f5c3857cc94e408a22d1ec1634262699"), looks := false }, kinds := [], alts := [], laidByText := true, laidKinds := [.data], laidTests := true, laidLooks := .later }
def HeaderBackUptoCardSaid : Prop := Claim7.holds Tryd.pinned (.plain (OpenSpec.upto headerBackSpec)) headerBackUptoCard
end Rows
end Go.Proofs.YtmlncbdfbodjoaaDoor
