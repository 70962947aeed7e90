/-
  DERIVED. GIVEN WITH THE SEED: THE CARDS: each row of YtglekfgoadehbaaGreatDoorRows.lean that lists a variable, with what it lists TIED to the program's text (the seventh form; the later family's looks); each row that meets fmt, with fmt's text TOLD by the authors' own Lean function (tested against real Go, not proved from fmt's source: count such statements apart). THE CARD IS WHAT COUNTS. Prove the row's statement (the work); the ties are given (YtglekfgoadehbaaGreatDoorTie.lean); close each card by the builder's one call (the guide's Derived/Test/ToyasCard.lean, 'card_holds'). Laid BY PROGRAM, IN A SANDBOX (cutbox-door.mjs). By AI agents, Wed Nov 11 2026. No macro, syntax, notation, axiom, sorry.
-/
import Derived.Test.YtglekfgoadehbaaGreatDoorRows
import GoSem.ClaimSeven
namespace Go.Proofs.YtglekfgoadehbaaGreatDoor
namespace Rows

/-- THE TIED CARD OF 'liverylaw15.FitTells'. -/
def fitTellsCard : Claim7 := { stood := { row := fitTellsRow, standIns := [], harness := (true, "88d46eed4ca0e991422677c2954eee4ca0b6956f56ffb2fa1eb07e40e9d4f392"), looks := false }, kinds := [], alts := [], laidByText := true, laidKinds := [.data], laidTests := true, laidLooks := .later }
def FitTellsCardSaid : Prop := Claim7.holds Tryz.pinned (.plain (OpenSpec.ofChange fitTellsSpec)) fitTellsCard

/-- THE SECOND FORM's CARD OF 'liverylaw15.FitTells'. -/
def fitTellsUptoCard : Claim7 := { stood := { row := fitTellsUptoRow, standIns := [], harness := (true, "88d46eed4ca0e991422677c2954eee4ca0b6956f56ffb2fa1eb07e40e9d4f392"), looks := false }, kinds := [], alts := [], laidByText := true, laidKinds := [.data], laidTests := true, laidLooks := .later }
def FitTellsUptoCardSaid : Prop := Claim7.holds Tryz.pinned (.plain (OpenSpec.upto fitTellsSpec)) fitTellsUptoCard
end Rows
end Go.Proofs.YtglekfgoadehbaaGreatDoor
