/-
  DERIVED. GIVEN WITH THE SEED: THE CARDS: each row of YtafefapbiekmbaaDoorRows.lean that lists a variable, with what it lists TIED to the program's text (the seventh form; the later family's looks); each row that meets fmt, with fmt's text TOLD by the authors' own Lean function (tested against real Go, not proved from fmt's source: count such statements apart). THE CARD IS WHAT COUNTS. Prove the row's statement (the work); the ties are given (YtafefapbiekmbaaDoorTie.lean); close each card by the builder's one call (the guide's Derived/Test/ToyasCard.lean, 'card_holds'). Laid BY PROGRAM, IN A SANDBOX (cutbox-door.mjs). By AI agents, Wed Nov 11 2026. No macro, syntax, notation, axiom, sorry.
-/
import Derived.Test.YtafefapbiekmbaaDoorRows
import GoSem.ClaimSeven
namespace Go.Proofs.YtafefapbiekmbaaDoor
namespace Rows

/-- THE TIED CARD OF 'pharoslaw04.DigestClash'. -/
def digestClashCard : Claim7 := { stood := { row := digestClashRow, standIns := [], harness := (true, "b0ad64e8dc34217aa7418bd489c2c7181084ecc69207869c82cb10ff0a4fda01"), looks := false }, kinds := [], alts := [], laidByText := true, laidKinds := [.data], laidTests := true, laidLooks := .later }
def DigestClashCardSaid : Prop := Claim7.holds Tryd.pinned (.plain (OpenSpec.ofChange digestClashSpec)) digestClashCard

/-- THE TIED CARD OF 'pharoslaw04.DigestOnce'. -/
def digestOnceCard : Claim7 := { stood := { row := digestOnceRow, standIns := [], harness := (true, "b0ad64e8dc34217aa7418bd489c2c7181084ecc69207869c82cb10ff0a4fda01"), looks := false }, kinds := [], alts := [], laidByText := true, laidKinds := [.data], laidTests := true, laidLooks := .later }
def DigestOnceCardSaid : Prop := Claim7.holds Tryd.pinned (.plain (OpenSpec.ofChange digestOnceSpec)) digestOnceCard

/-- THE TIED CARD OF 'pharoslaw04.DigestOwn'. -/
def digestOwnCard : Claim7 := { stood := { row := digestOwnRow, standIns := [], harness := (true, "b0ad64e8dc34217aa7418bd489c2c7181084ecc69207869c82cb10ff0a4fda01"), looks := false }, kinds := [], alts := [], laidByText := true, laidKinds := [.data], laidTests := true, laidLooks := .later }
def DigestOwnCardSaid : Prop := Claim7.holds Tryd.pinned (.plain (OpenSpec.ofChange digestOwnSpec)) digestOwnCard

/-- THE TIED CARD OF 'pharoslaw04.DigestSums'. -/
def digestSumsCard : Claim7 := { stood := { row := digestSumsRow, standIns := [], harness := (true, "b0ad64e8dc34217aa7418bd489c2c7181084ecc69207869c82cb10ff0a4fda01"), looks := false }, kinds := [], alts := [], laidByText := true, laidKinds := [.data], laidTests := true, laidLooks := .later }
def DigestSumsCardSaid : Prop := Claim7.holds Tryd.pinned (.plain (OpenSpec.ofChange digestSumsSpec)) digestSumsCard

/-- THE TIED CARD OF 'pharoslaw04.DigestLogs'. -/
def digestLogsCard : Claim7 := { stood := { row := digestLogsRow, standIns := [], harness := (true, "b0ad64e8dc34217aa7418bd489c2c7181084ecc69207869c82cb10ff0a4fda01"), looks := false }, kinds := [], alts := [], laidByText := true, laidKinds := [.data], laidTests := true, laidLooks := .later }
def DigestLogsCardSaid : Prop := Claim7.holds Tryd.pinned (.plain (OpenSpec.ofChange digestLogsSpec)) digestLogsCard

/-- THE SECOND FORM's CARD OF 'pharoslaw04.DigestClash'. -/
def digestClashUptoCard : Claim7 := { stood := { row := digestClashUptoRow, standIns := [], harness := (true, "b0ad64e8dc34217aa7418bd489c2c7181084ecc69207869c82cb10ff0a4fda01"), looks := false }, kinds := [], alts := [], laidByText := true, laidKinds := [.data], laidTests := true, laidLooks := .later }
def DigestClashUptoCardSaid : Prop := Claim7.holds Tryd.pinned (.plain (OpenSpec.upto digestClashSpec)) digestClashUptoCard

/-- THE SECOND FORM's CARD OF 'pharoslaw04.DigestOnce'. -/
def digestOnceUptoCard : Claim7 := { stood := { row := digestOnceUptoRow, standIns := [], harness := (true, "b0ad64e8dc34217aa7418bd489c2c7181084ecc69207869c82cb10ff0a4fda01"), looks := false }, kinds := [], alts := [], laidByText := true, laidKinds := [.data], laidTests := true, laidLooks := .later }
def DigestOnceUptoCardSaid : Prop := Claim7.holds Tryd.pinned (.plain (OpenSpec.upto digestOnceSpec)) digestOnceUptoCard

/-- THE SECOND FORM's CARD OF 'pharoslaw04.DigestOwn'. -/
def digestOwnUptoCard : Claim7 := { stood := { row := digestOwnUptoRow, standIns := [], harness := (true, "b0ad64e8dc34217aa7418bd489c2c7181084ecc69207869c82cb10ff0a4fda01"), looks := false }, kinds := [], alts := [], laidByText := true, laidKinds := [.data], laidTests := true, laidLooks := .later }
def DigestOwnUptoCardSaid : Prop := Claim7.holds Tryd.pinned (.plain (OpenSpec.upto digestOwnSpec)) digestOwnUptoCard

/-- THE SECOND FORM's CARD OF 'pharoslaw04.DigestSums'. -/
def digestSumsUptoCard : Claim7 := { stood := { row := digestSumsUptoRow, standIns := [], harness := (true, "b0ad64e8dc34217aa7418bd489c2c7181084ecc69207869c82cb10ff0a4fda01"), looks := false }, kinds := [], alts := [], laidByText := true, laidKinds := [.data], laidTests := true, laidLooks := .later }
def DigestSumsUptoCardSaid : Prop := Claim7.holds Tryd.pinned (.plain (OpenSpec.upto digestSumsSpec)) digestSumsUptoCard

/-- THE SECOND FORM's CARD OF 'pharoslaw04.DigestLogs'. -/
def digestLogsUptoCard : Claim7 := { stood := { row := digestLogsUptoRow, standIns := [], harness := (true, "b0ad64e8dc34217aa7418bd489c2c7181084ecc69207869c82cb10ff0a4fda01"), looks := false }, kinds := [], alts := [], laidByText := true, laidKinds := [.data], laidTests := true, laidLooks := .later }
def DigestLogsUptoCardSaid : Prop := Claim7.holds Tryd.pinned (.plain (OpenSpec.upto digestLogsSpec)) digestLogsUptoCard
end Rows
end Go.Proofs.YtafefapbiekmbaaDoor
