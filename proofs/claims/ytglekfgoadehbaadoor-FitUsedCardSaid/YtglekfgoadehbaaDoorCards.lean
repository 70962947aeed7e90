/-
  DERIVED. GIVEN WITH THE SEED: THE CARDS: each row of YtglekfgoadehbaaDoorRows.lean that lists a variable, with what it lists TIED to the program's text (the seventh form; the later family's looks); each row that meets fmt, with fmt's text TOLD by the authors' own Lean function (tested against real Go, not proved from fmt's source: count such statements apart). THE CARD IS WHAT COUNTS. Prove the row's statement (the work); the ties are given (YtglekfgoadehbaaDoorTie.lean); close each card by the builder's one call (the guide's Derived/Test/ToyasCard.lean, 'card_holds'). Laid BY PROGRAM, IN A SANDBOX (cutbox-door.mjs). By AI agents, Wed Nov 11 2026. No macro, syntax, notation, axiom, sorry.
-/
import Derived.Test.YtglekfgoadehbaaDoorRows
import GoSem.ClaimSeven
namespace Go.Proofs.YtglekfgoadehbaaDoor
namespace Rows

/-- THE TIED CARD OF 'liverylaw15.FitUsed'. -/
def fitUsedCard : Claim7 := { stood := { row := fitUsedRow, standIns := [], harness := (true, "c6118d387a06250c08cb171de1fb3a7ef9d28f2cef8119acd137e28c44816ab9"), looks := false }, kinds := [], alts := [], laidByText := true, laidKinds := [.data], laidTests := true, laidLooks := .later }
def FitUsedCardSaid : Prop := Claim7.holds Tryd.pinned (.plain (OpenSpec.ofChange fitUsedSpec)) fitUsedCard

/-- THE TIED CARD OF 'liverylaw15.FitTakes'. -/
def fitTakesCard : Claim7 := { stood := { row := fitTakesRow, standIns := [], harness := (true, "c6118d387a06250c08cb171de1fb3a7ef9d28f2cef8119acd137e28c44816ab9"), looks := false }, kinds := [], alts := [], laidByText := true, laidKinds := [.data], laidTests := true, laidLooks := .later }
def FitTakesCardSaid : Prop := Claim7.holds Tryd.pinned (.plain (OpenSpec.ofChange fitTakesSpec)) fitTakesCard

/-- THE TIED CARD OF 'liverylaw15.FitLess'. -/
def fitLessCard : Claim7 := { stood := { row := fitLessRow, standIns := [], harness := (true, "c6118d387a06250c08cb171de1fb3a7ef9d28f2cef8119acd137e28c44816ab9"), looks := false }, kinds := [], alts := [], laidByText := true, laidKinds := [.data], laidTests := true, laidLooks := .later }
def FitLessCardSaid : Prop := Claim7.holds Tryd.pinned (.plain (OpenSpec.ofChange fitLessSpec)) fitLessCard

/-- THE SECOND FORM's CARD OF 'liverylaw15.FitUsed'. -/
def fitUsedUptoCard : Claim7 := { stood := { row := fitUsedUptoRow, standIns := [], harness := (true, "c6118d387a06250c08cb171de1fb3a7ef9d28f2cef8119acd137e28c44816ab9"), looks := false }, kinds := [], alts := [], laidByText := true, laidKinds := [.data], laidTests := true, laidLooks := .later }
def FitUsedUptoCardSaid : Prop := Claim7.holds Tryd.pinned (.plain (OpenSpec.upto fitUsedSpec)) fitUsedUptoCard

/-- THE SECOND FORM's CARD OF 'liverylaw15.FitTakes'. -/
def fitTakesUptoCard : Claim7 := { stood := { row := fitTakesUptoRow, standIns := [], harness := (true, "c6118d387a06250c08cb171de1fb3a7ef9d28f2cef8119acd137e28c44816ab9"), looks := false }, kinds := [], alts := [], laidByText := true, laidKinds := [.data], laidTests := true, laidLooks := .later }
def FitTakesUptoCardSaid : Prop := Claim7.holds Tryd.pinned (.plain (OpenSpec.upto fitTakesSpec)) fitTakesUptoCard

/-- THE SECOND FORM's CARD OF 'liverylaw15.FitLess'. -/
def fitLessUptoCard : Claim7 := { stood := { row := fitLessUptoRow, standIns := [], harness := (true, "c6118d387a06250c08cb171de1fb3a7ef9d28f2cef8119acd137e28c44816ab9"), looks := false }, kinds := [], alts := [], laidByText := true, laidKinds := [.data], laidTests := true, laidLooks := .later }
def FitLessUptoCardSaid : Prop := Claim7.holds Tryd.pinned (.plain (OpenSpec.upto fitLessSpec)) fitLessUptoCard
end Rows
end Go.Proofs.YtglekfgoadehbaaDoor
