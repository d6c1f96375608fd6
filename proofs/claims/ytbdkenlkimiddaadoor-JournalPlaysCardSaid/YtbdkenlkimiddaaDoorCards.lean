/-
  DERIVED. GIVEN WITH THE SEED: THE CARDS: each row of YtbdkenlkimiddaaDoorRows.lean that lists a variable, with what it lists TIED to the program's text (the seventh form; the later family's looks); each row that meets fmt, with fmt's text TOLD by the authors' own Lean function (tested against real Go, not proved from fmt's source: count such statements apart). THE CARD IS WHAT COUNTS. Prove the row's statement (the work); the ties are given (YtbdkenlkimiddaaDoorTie.lean); close each card by the builder's one call (the guide's Derived/Test/ToyasCard.lean, 'card_holds'). Laid BY PROGRAM, IN A SANDBOX (cutbox-door.mjs). By AI agents, Wed Nov 11 2026. No macro, syntax, notation, axiom, sorry.
-/
import Derived.Test.YtbdkenlkimiddaaDoorRows
import GoSem.ClaimSeven
namespace Go.Proofs.YtbdkenlkimiddaaDoor
namespace Rows

/-- THE TIED CARD OF 'pharoslaw32.JournalCuts'. -/
def journalCutsCard : Claim7 := { stood := { row := journalCutsRow, standIns := [], harness := (true, "0f02d9a312b98f16e026401e6ef223562c9d5dc3f0f5f814998a8e3918a5ac22"), looks := false }, kinds := [], alts := [], laidByText := true, laidKinds := [.data], laidTests := true, laidLooks := .later }
def JournalCutsCardSaid : Prop := Claim7.holds Tryd.pinned (.plain (OpenSpec.ofChange journalCutsSpec)) journalCutsCard

/-- THE TIED CARD OF 'pharoslaw32.JournalTurned'. -/
def journalTurnedCard : Claim7 := { stood := { row := journalTurnedRow, standIns := [], harness := (true, "0f02d9a312b98f16e026401e6ef223562c9d5dc3f0f5f814998a8e3918a5ac22"), looks := false }, kinds := [], alts := [], laidByText := true, laidKinds := [.data], laidTests := true, laidLooks := .later }
def JournalTurnedCardSaid : Prop := Claim7.holds Tryd.pinned (.plain (OpenSpec.ofChange journalTurnedSpec)) journalTurnedCard

/-- THE TIED CARD OF 'pharoslaw32.JournalSafe'. -/
def journalSafeCard : Claim7 := { stood := { row := journalSafeRow, standIns := [], harness := (true, "0f02d9a312b98f16e026401e6ef223562c9d5dc3f0f5f814998a8e3918a5ac22"), looks := false }, kinds := [], alts := [], laidByText := true, laidKinds := [.data], laidTests := true, laidLooks := .later }
def JournalSafeCardSaid : Prop := Claim7.holds Tryd.pinned (.plain (OpenSpec.ofChange journalSafeSpec)) journalSafeCard

/-- THE TIED CARD OF 'pharoslaw32.JournalPlays'. -/
def journalPlaysCard : Claim7 := { stood := { row := journalPlaysRow, standIns := [], harness := (true, "0f02d9a312b98f16e026401e6ef223562c9d5dc3f0f5f814998a8e3918a5ac22"), looks := false }, kinds := [], alts := [], laidByText := true, laidKinds := [.data], laidTests := true, laidLooks := .later }
def JournalPlaysCardSaid : Prop := Claim7.holds Tryd.pinned (.plain (OpenSpec.ofChange journalPlaysSpec)) journalPlaysCard

/-- THE SECOND FORM's CARD OF 'pharoslaw32.JournalCuts'. -/
def journalCutsUptoCard : Claim7 := { stood := { row := journalCutsUptoRow, standIns := [], harness := (true, "0f02d9a312b98f16e026401e6ef223562c9d5dc3f0f5f814998a8e3918a5ac22"), looks := false }, kinds := [], alts := [], laidByText := true, laidKinds := [.data], laidTests := true, laidLooks := .later }
def JournalCutsUptoCardSaid : Prop := Claim7.holds Tryd.pinned (.plain (OpenSpec.upto journalCutsSpec)) journalCutsUptoCard

/-- THE SECOND FORM's CARD OF 'pharoslaw32.JournalTurned'. -/
def journalTurnedUptoCard : Claim7 := { stood := { row := journalTurnedUptoRow, standIns := [], harness := (true, "0f02d9a312b98f16e026401e6ef223562c9d5dc3f0f5f814998a8e3918a5ac22"), looks := false }, kinds := [], alts := [], laidByText := true, laidKinds := [.data], laidTests := true, laidLooks := .later }
def JournalTurnedUptoCardSaid : Prop := Claim7.holds Tryd.pinned (.plain (OpenSpec.upto journalTurnedSpec)) journalTurnedUptoCard

/-- THE SECOND FORM's CARD OF 'pharoslaw32.JournalSafe'. -/
def journalSafeUptoCard : Claim7 := { stood := { row := journalSafeUptoRow, standIns := [], harness := (true, "0f02d9a312b98f16e026401e6ef223562c9d5dc3f0f5f814998a8e3918a5ac22"), looks := false }, kinds := [], alts := [], laidByText := true, laidKinds := [.data], laidTests := true, laidLooks := .later }
def JournalSafeUptoCardSaid : Prop := Claim7.holds Tryd.pinned (.plain (OpenSpec.upto journalSafeSpec)) journalSafeUptoCard

/-- THE SECOND FORM's CARD OF 'pharoslaw32.JournalPlays'. -/
def journalPlaysUptoCard : Claim7 := { stood := { row := journalPlaysUptoRow, standIns := [], harness := (true, "0f02d9a312b98f16e026401e6ef223562c9d5dc3f0f5f814998a8e3918a5ac22"), looks := false }, kinds := [], alts := [], laidByText := true, laidKinds := [.data], laidTests := true, laidLooks := .later }
def JournalPlaysUptoCardSaid : Prop := Claim7.holds Tryd.pinned (.plain (OpenSpec.upto journalPlaysSpec)) journalPlaysUptoCard
end Rows
end Go.Proofs.YtbdkenlkimiddaaDoor
