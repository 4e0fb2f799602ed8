/-
  DERIVED. GIVEN WITH THE SEED: THE CARDS: each row of YtpbmlppdmdmfkaaGreatDoorRows.lean that lists a variable, with what it lists TIED to the program's text (the seventh form; the later family's looks); each row that meets fmt, with fmt's text TOLD by the authors' own Lean function (tested against real Go, not proved from fmt's source: count such statements apart). THE CARD IS WHAT COUNTS. Prove the row's statement (the work); the ties are given (YtpbmlppdmdmfkaaGreatDoorTie.lean); close each card by the builder's one call (the guide's Derived/Test/ToyasCard.lean, 'card_holds'). Laid BY PROGRAM, IN A SANDBOX (cutbox-door.mjs). By AI agents, Wed Nov 11 2026. No macro, syntax, notation, axiom, sorry.
-/
import Derived.Test.YtpbmlppdmdmfkaaGreatDoorRows
import GoSem.ClaimSeven
namespace Go.Proofs.YtpbmlppdmdmfkaaGreatDoor
namespace Rows

/-- THE TIED CARD OF 'laws.FnDelayRel'. -/
def fnDelayRelCard : Claim7 := { stood := { row := fnDelayRelRow, standIns := [], harness := (true, "b553da10ed839e31a7ff36937fe6ecb2478ca9dc049aaa65ce0cb9f5bd04f7e9"), looks := false }, kinds := [], alts := [], laidByText := true, laidKinds := [.widerDeep], laidTests := true, laidLooks := .later }
def FnDelayRelCardSaid : Prop := Claim7.holds Tryz.pinned (.plain (OpenSpec.ofChange fnDelayRelSpec)) fnDelayRelCard

/-- THE TIED CARD OF 'laws.FnExactAllowedExecs'. -/
def fnExactAllowedExecsCard : Claim7 := { stood := { row := fnExactAllowedExecsRow, standIns := [], harness := (true, "b553da10ed839e31a7ff36937fe6ecb2478ca9dc049aaa65ce0cb9f5bd04f7e9"), looks := false }, kinds := [], alts := [], laidByText := true, laidKinds := [.widerDeep], laidTests := true, laidLooks := .later }
def FnExactAllowedExecsCardSaid : Prop := Claim7.holds Tryz.pinned (.plain (OpenSpec.ofChange fnExactAllowedExecsSpec)) fnExactAllowedExecsCard

/-- THE TIED CARD OF 'laws.FnExactExecFor'. -/
def fnExactExecForCard : Claim7 := { stood := { row := fnExactExecForRow, standIns := [], harness := (true, "b553da10ed839e31a7ff36937fe6ecb2478ca9dc049aaa65ce0cb9f5bd04f7e9"), looks := false }, kinds := [], alts := [], laidByText := true, laidKinds := [.widerDeep], laidTests := true, laidLooks := .later }
def FnExactExecForCardSaid : Prop := Claim7.holds Tryz.pinned (.plain (OpenSpec.ofChange fnExactExecForSpec)) fnExactExecForCard

/-- THE TIED CARD OF 'laws.FnAllowedExecs'. -/
def fnAllowedExecsCard : Claim7 := { stood := { row := fnAllowedExecsRow, standIns := [], harness := (true, "b553da10ed839e31a7ff36937fe6ecb2478ca9dc049aaa65ce0cb9f5bd04f7e9"), looks := false }, kinds := [], alts := [], laidByText := true, laidKinds := [.widerDeep], laidTests := true, laidLooks := .later }
def FnAllowedExecsCardSaid : Prop := Claim7.holds Tryz.pinned (.plain (OpenSpec.ofChange fnAllowedExecsSpec)) fnAllowedExecsCard

/-- THE TIED CARD OF 'laws.FnModelOrder'. -/
def fnModelOrderCard : Claim7 := { stood := { row := fnModelOrderRow, standIns := [], harness := (true, "b553da10ed839e31a7ff36937fe6ecb2478ca9dc049aaa65ce0cb9f5bd04f7e9"), looks := false }, kinds := [], alts := [], laidByText := true, laidKinds := [.data, .widerDeep, .widerDeep, .pinned], laidTests := true, laidLooks := .later }
def FnModelOrderCardSaid : Prop := Claim7.holds Tryz.pinned (.plain (OpenSpec.ofChange fnModelOrderSpec)) fnModelOrderCard

/-- THE TIED CARD OF 'laws.FnExactModelOutcomes'. -/
def fnExactModelOutcomesCard : Claim7 := { stood := { row := fnExactModelOutcomesRow, standIns := [], harness := (true, "b553da10ed839e31a7ff36937fe6ecb2478ca9dc049aaa65ce0cb9f5bd04f7e9"), looks := false }, kinds := [], alts := [], laidByText := true, laidKinds := [.widerDeep], laidTests := true, laidLooks := .later }
def FnExactModelOutcomesCardSaid : Prop := Claim7.holds Tryz.pinned (.plain (OpenSpec.ofChange fnExactModelOutcomesSpec)) fnExactModelOutcomesCard

/-- THE TIED CARD OF 'laws.FnTsoFence'. -/
def fnTsoFenceCard : Claim7 := { stood := { row := fnTsoFenceRow, standIns := [], harness := (true, "b553da10ed839e31a7ff36937fe6ecb2478ca9dc049aaa65ce0cb9f5bd04f7e9"), looks := false }, kinds := [], alts := [], laidByText := true, laidKinds := [.data, .widerDeep, .widerDeep, .pinned], laidTests := true, laidLooks := .later }
def FnTsoFenceCardSaid : Prop := Claim7.holds Tryz.pinned (.plain (OpenSpec.ofChange fnTsoFenceSpec)) fnTsoFenceCard

/-- THE TIED CARD OF 'laws.FnModelSorted'. -/
def fnModelSortedCard : Claim7 := { stood := { row := fnModelSortedRow, standIns := [], harness := (true, "b553da10ed839e31a7ff36937fe6ecb2478ca9dc049aaa65ce0cb9f5bd04f7e9"), looks := false }, kinds := [], alts := [], laidByText := true, laidKinds := [.widerDeep], laidTests := true, laidLooks := .later }
def FnModelSortedCardSaid : Prop := Claim7.holds Tryz.pinned (.plain (OpenSpec.ofChange fnModelSortedSpec)) fnModelSortedCard

/-- THE SECOND FORM's CARD OF 'laws.FnDelayRel'. -/
def fnDelayRelUptoCard : Claim7 := { stood := { row := fnDelayRelUptoRow, standIns := [], harness := (true, "b553da10ed839e31a7ff36937fe6ecb2478ca9dc049aaa65ce0cb9f5bd04f7e9"), looks := false }, kinds := [], alts := [], laidByText := true, laidKinds := [.widerDeep], laidTests := true, laidLooks := .later }
def FnDelayRelUptoCardSaid : Prop := Claim7.holds Tryz.pinned (.plain (OpenSpec.upto fnDelayRelSpec)) fnDelayRelUptoCard

/-- THE SECOND FORM's CARD OF 'laws.FnExactAllowedExecs'. -/
def fnExactAllowedExecsUptoCard : Claim7 := { stood := { row := fnExactAllowedExecsUptoRow, standIns := [], harness := (true, "b553da10ed839e31a7ff36937fe6ecb2478ca9dc049aaa65ce0cb9f5bd04f7e9"), looks := false }, kinds := [], alts := [], laidByText := true, laidKinds := [.widerDeep], laidTests := true, laidLooks := .later }
def FnExactAllowedExecsUptoCardSaid : Prop := Claim7.holds Tryz.pinned (.plain (OpenSpec.upto fnExactAllowedExecsSpec)) fnExactAllowedExecsUptoCard

/-- THE SECOND FORM's CARD OF 'laws.FnExactExecFor'. -/
def fnExactExecForUptoCard : Claim7 := { stood := { row := fnExactExecForUptoRow, standIns := [], harness := (true, "b553da10ed839e31a7ff36937fe6ecb2478ca9dc049aaa65ce0cb9f5bd04f7e9"), looks := false }, kinds := [], alts := [], laidByText := true, laidKinds := [.widerDeep], laidTests := true, laidLooks := .later }
def FnExactExecForUptoCardSaid : Prop := Claim7.holds Tryz.pinned (.plain (OpenSpec.upto fnExactExecForSpec)) fnExactExecForUptoCard

/-- THE SECOND FORM's CARD OF 'laws.FnAllowedExecs'. -/
def fnAllowedExecsUptoCard : Claim7 := { stood := { row := fnAllowedExecsUptoRow, standIns := [], harness := (true, "b553da10ed839e31a7ff36937fe6ecb2478ca9dc049aaa65ce0cb9f5bd04f7e9"), looks := false }, kinds := [], alts := [], laidByText := true, laidKinds := [.widerDeep], laidTests := true, laidLooks := .later }
def FnAllowedExecsUptoCardSaid : Prop := Claim7.holds Tryz.pinned (.plain (OpenSpec.upto fnAllowedExecsSpec)) fnAllowedExecsUptoCard

/-- THE SECOND FORM's CARD OF 'laws.FnModelOrder'. -/
def fnModelOrderUptoCard : Claim7 := { stood := { row := fnModelOrderUptoRow, standIns := [], harness := (true, "b553da10ed839e31a7ff36937fe6ecb2478ca9dc049aaa65ce0cb9f5bd04f7e9"), looks := false }, kinds := [], alts := [], laidByText := true, laidKinds := [.data, .widerDeep, .widerDeep, .pinned], laidTests := true, laidLooks := .later }
def FnModelOrderUptoCardSaid : Prop := Claim7.holds Tryz.pinned (.plain (OpenSpec.upto fnModelOrderSpec)) fnModelOrderUptoCard

/-- THE SECOND FORM's CARD OF 'laws.FnExactModelOutcomes'. -/
def fnExactModelOutcomesUptoCard : Claim7 := { stood := { row := fnExactModelOutcomesUptoRow, standIns := [], harness := (true, "b553da10ed839e31a7ff36937fe6ecb2478ca9dc049aaa65ce0cb9f5bd04f7e9"), looks := false }, kinds := [], alts := [], laidByText := true, laidKinds := [.widerDeep], laidTests := true, laidLooks := .later }
def FnExactModelOutcomesUptoCardSaid : Prop := Claim7.holds Tryz.pinned (.plain (OpenSpec.upto fnExactModelOutcomesSpec)) fnExactModelOutcomesUptoCard

/-- THE SECOND FORM's CARD OF 'laws.FnTsoFence'. -/
def fnTsoFenceUptoCard : Claim7 := { stood := { row := fnTsoFenceUptoRow, standIns := [], harness := (true, "b553da10ed839e31a7ff36937fe6ecb2478ca9dc049aaa65ce0cb9f5bd04f7e9"), looks := false }, kinds := [], alts := [], laidByText := true, laidKinds := [.data, .widerDeep, .widerDeep, .pinned], laidTests := true, laidLooks := .later }
def FnTsoFenceUptoCardSaid : Prop := Claim7.holds Tryz.pinned (.plain (OpenSpec.upto fnTsoFenceSpec)) fnTsoFenceUptoCard

/-- THE SECOND FORM's CARD OF 'laws.FnModelSorted'. -/
def fnModelSortedUptoCard : Claim7 := { stood := { row := fnModelSortedUptoRow, standIns := [], harness := (true, "b553da10ed839e31a7ff36937fe6ecb2478ca9dc049aaa65ce0cb9f5bd04f7e9"), looks := false }, kinds := [], alts := [], laidByText := true, laidKinds := [.widerDeep], laidTests := true, laidLooks := .later }
def FnModelSortedUptoCardSaid : Prop := Claim7.holds Tryz.pinned (.plain (OpenSpec.upto fnModelSortedSpec)) fnModelSortedUptoCard
end Rows
end Go.Proofs.YtpbmlppdmdmfkaaGreatDoor
