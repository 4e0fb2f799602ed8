/-
  DERIVED. GIVEN WITH THE SEED: THE CARDS: each row of YtkfhgnkonaafgaaGreatDoorRows.lean that lists a variable, with what it lists TIED to the program's text (the seventh form; the later family's looks); each row that meets fmt, with fmt's text TOLD by the authors' own Lean function (tested against real Go, not proved from fmt's source: count such statements apart). THE CARD IS WHAT COUNTS. Prove the row's statement (the work); the ties are given (YtkfhgnkonaafgaaGreatDoorTie.lean); close each card by the builder's one call (the guide's Derived/Test/ToyasCard.lean, 'card_holds'). Laid BY PROGRAM, IN A SANDBOX (cutbox-door.mjs). By AI agents, Wed Nov 11 2026. No macro, syntax, notation, axiom, sorry.
-/
import Derived.Test.YtkfhgnkonaafgaaGreatDoorRows
import GoSem.ClaimSeven
namespace Go.Proofs.YtkfhgnkonaafgaaGreatDoor
namespace Rows

/-- THE TIED CARD OF 'laws.FnExactExecFor'. -/
def fnExactExecForCard : Claim7 := { stood := { row := fnExactExecForRow, standIns := [], harness := (true, "94f7b0616fbb0918b61a3a87e82df8751d75aeb6c90e33b7add7d43677f4711d"), looks := false }, kinds := [], alts := [], laidByText := true, laidKinds := [.widerDeep], laidTests := true, laidLooks := .later }
def FnExactExecForCardSaid : Prop := Claim7.holds Tryz.pinned (.plain (OpenSpec.ofChange fnExactExecForSpec)) fnExactExecForCard

/-- THE TIED CARD OF 'laws.FnExactModelOutcomes'. -/
def fnExactModelOutcomesCard : Claim7 := { stood := { row := fnExactModelOutcomesRow, standIns := [], harness := (true, "94f7b0616fbb0918b61a3a87e82df8751d75aeb6c90e33b7add7d43677f4711d"), looks := false }, kinds := [], alts := [], laidByText := true, laidKinds := [.widerDeep], laidTests := true, laidLooks := .later }
def FnExactModelOutcomesCardSaid : Prop := Claim7.holds Tryz.pinned (.plain (OpenSpec.ofChange fnExactModelOutcomesSpec)) fnExactModelOutcomesCard

/-- THE TIED CARD OF 'laws.FnModelSorted'. -/
def fnModelSortedCard : Claim7 := { stood := { row := fnModelSortedRow, standIns := [], harness := (true, "94f7b0616fbb0918b61a3a87e82df8751d75aeb6c90e33b7add7d43677f4711d"), looks := false }, kinds := [], alts := [], laidByText := true, laidKinds := [.widerDeep], laidTests := true, laidLooks := .later }
def FnModelSortedCardSaid : Prop := Claim7.holds Tryz.pinned (.plain (OpenSpec.ofChange fnModelSortedSpec)) fnModelSortedCard

/-- THE SECOND FORM's CARD OF 'laws.FnExactExecFor'. -/
def fnExactExecForUptoCard : Claim7 := { stood := { row := fnExactExecForUptoRow, standIns := [], harness := (true, "94f7b0616fbb0918b61a3a87e82df8751d75aeb6c90e33b7add7d43677f4711d"), looks := false }, kinds := [], alts := [], laidByText := true, laidKinds := [.widerDeep], laidTests := true, laidLooks := .later }
def FnExactExecForUptoCardSaid : Prop := Claim7.holds Tryz.pinned (.plain (OpenSpec.upto fnExactExecForSpec)) fnExactExecForUptoCard

/-- THE SECOND FORM's CARD OF 'laws.FnExactModelOutcomes'. -/
def fnExactModelOutcomesUptoCard : Claim7 := { stood := { row := fnExactModelOutcomesUptoRow, standIns := [], harness := (true, "94f7b0616fbb0918b61a3a87e82df8751d75aeb6c90e33b7add7d43677f4711d"), looks := false }, kinds := [], alts := [], laidByText := true, laidKinds := [.widerDeep], laidTests := true, laidLooks := .later }
def FnExactModelOutcomesUptoCardSaid : Prop := Claim7.holds Tryz.pinned (.plain (OpenSpec.upto fnExactModelOutcomesSpec)) fnExactModelOutcomesUptoCard

/-- THE SECOND FORM's CARD OF 'laws.FnModelSorted'. -/
def fnModelSortedUptoCard : Claim7 := { stood := { row := fnModelSortedUptoRow, standIns := [], harness := (true, "94f7b0616fbb0918b61a3a87e82df8751d75aeb6c90e33b7add7d43677f4711d"), looks := false }, kinds := [], alts := [], laidByText := true, laidKinds := [.widerDeep], laidTests := true, laidLooks := .later }
def FnModelSortedUptoCardSaid : Prop := Claim7.holds Tryz.pinned (.plain (OpenSpec.upto fnModelSortedSpec)) fnModelSortedUptoCard
end Rows
end Go.Proofs.YtkfhgnkonaafgaaGreatDoor
