/-
  DERIVED. GIVEN WITH THE SEED: THE CARDS: each row of YtaflklbmdbmjbaaGreatDoorRows.lean that lists a variable, with what it lists TIED to the program's text (the seventh form; the later family's looks); each row that meets fmt, with fmt's text TOLD by the authors' own Lean function (tested against real Go, not proved from fmt's source: count such statements apart). THE CARD IS WHAT COUNTS. Prove the row's statement (the work); the ties are given (YtaflklbmdbmjbaaGreatDoorTie.lean); close each card by the builder's one call (the guide's Derived/Test/ToyasCard.lean, 'card_holds'). Laid BY PROGRAM, IN A SANDBOX (cutbox-door.mjs). By AI agents, Wed Nov 11 2026. No macro, syntax, notation, axiom, sorry.
-/
import Derived.Test.YtaflklbmdbmjbaaGreatDoorRows
import GoSem.ClaimSeven
namespace Go.Proofs.YtaflklbmdbmjbaaGreatDoor
namespace Rows

/-- THE TIED CARD OF 'pharostop.TopPoints'. -/
def topPointsCard : Claim7 := { stood := { row := topPointsRow, standIns := [], harness := (true, "4e01585516193e652f360c172df577f1d9d6e611f63c04331cb56fb4e53398da"), looks := false }, kinds := [], alts := [], laidByText := true, laidKinds := [.data], laidTests := true, laidLooks := .later }
def TopPointsCardSaid : Prop := Claim7.holds Tryz.pinned (.plain (OpenSpec.ofChange topPointsSpec)) topPointsCard

/-- THE SECOND FORM's CARD OF 'pharostop.TopPoints'. -/
def topPointsUptoCard : Claim7 := { stood := { row := topPointsUptoRow, standIns := [], harness := (true, "4e01585516193e652f360c172df577f1d9d6e611f63c04331cb56fb4e53398da"), looks := false }, kinds := [], alts := [], laidByText := true, laidKinds := [.data], laidTests := true, laidLooks := .later }
def TopPointsUptoCardSaid : Prop := Claim7.holds Tryz.pinned (.plain (OpenSpec.upto topPointsSpec)) topPointsUptoCard
end Rows
end Go.Proofs.YtaflklbmdbmjbaaGreatDoor
