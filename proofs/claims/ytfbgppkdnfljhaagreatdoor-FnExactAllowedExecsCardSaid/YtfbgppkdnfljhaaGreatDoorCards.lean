/-
  DERIVED. GIVEN WITH THE SEED: THE CARDS: each row of YtfbgppkdnfljhaaGreatDoorRows.lean that lists a variable, with what it lists TIED to the program's text (the seventh form; the later family's looks); each row that meets fmt, with fmt's text TOLD by the authors' own Lean function (tested against real Go, not proved from fmt's source: count such statements apart). THE CARD IS WHAT COUNTS. Prove the row's statement (the work); the ties are given (YtfbgppkdnfljhaaGreatDoorTie.lean); close each card by the builder's one call (the guide's Derived/Test/ToyasCard.lean, 'card_holds'). Laid BY PROGRAM, IN A SANDBOX (cutbox-door.mjs). By AI agents, Wed Nov 11 2026. No macro, syntax, notation, axiom, sorry.
-/
import Derived.Test.YtfbgppkdnfljhaaGreatDoorRows
import GoSem.ClaimSeven
namespace Go.Proofs.YtfbgppkdnfljhaaGreatDoor
namespace Rows

/-- THE TIED CARD OF 'laws.FnExactAllowedExecs'. -/
def fnExactAllowedExecsCard : Claim7 := { stood := { row := fnExactAllowedExecsRow, standIns := [], harness := (true, "710eef6c36ee1fa971e4bc84a638c6efa7da1a3d2e4e7ee243b37bacf313dc4b"), looks := false }, kinds := [], alts := [], laidByText := true, laidKinds := [.widerDeep], laidTests := true, laidLooks := .later }
def FnExactAllowedExecsCardSaid : Prop := Claim7.holds Tryz.pinned (.plain (OpenSpec.ofChange fnExactAllowedExecsSpec)) fnExactAllowedExecsCard

/-- THE TIED CARD OF 'laws.FnTsoFence'. -/
def fnTsoFenceCard : Claim7 := { stood := { row := fnTsoFenceRow, standIns := [], harness := (true, "710eef6c36ee1fa971e4bc84a638c6efa7da1a3d2e4e7ee243b37bacf313dc4b"), looks := false }, kinds := [], alts := [], laidByText := true, laidKinds := [.data, .widerDeep, .widerDeep, .pinned], laidTests := true, laidLooks := .later }
def FnTsoFenceCardSaid : Prop := Claim7.holds Tryz.pinned (.plain (OpenSpec.ofChange fnTsoFenceSpec)) fnTsoFenceCard

/-- THE TIED CARD OF 'laws.FnAllowedExecs'. -/
def fnAllowedExecsCard : Claim7 := { stood := { row := fnAllowedExecsRow, standIns := [], harness := (true, "710eef6c36ee1fa971e4bc84a638c6efa7da1a3d2e4e7ee243b37bacf313dc4b"), looks := false }, kinds := [], alts := [], laidByText := true, laidKinds := [.widerDeep], laidTests := true, laidLooks := .later }
def FnAllowedExecsCardSaid : Prop := Claim7.holds Tryz.pinned (.plain (OpenSpec.ofChange fnAllowedExecsSpec)) fnAllowedExecsCard

/-- THE TIED CARD OF 'laws.FnModelOrder'. -/
def fnModelOrderCard : Claim7 := { stood := { row := fnModelOrderRow, standIns := [], harness := (true, "710eef6c36ee1fa971e4bc84a638c6efa7da1a3d2e4e7ee243b37bacf313dc4b"), looks := false }, kinds := [], alts := [], laidByText := true, laidKinds := [.data, .widerDeep, .widerDeep, .pinned], laidTests := true, laidLooks := .later }
def FnModelOrderCardSaid : Prop := Claim7.holds Tryz.pinned (.plain (OpenSpec.ofChange fnModelOrderSpec)) fnModelOrderCard

/-- THE SECOND FORM's CARD OF 'laws.FnExactAllowedExecs'. -/
def fnExactAllowedExecsUptoCard : Claim7 := { stood := { row := fnExactAllowedExecsUptoRow, standIns := [], harness := (true, "710eef6c36ee1fa971e4bc84a638c6efa7da1a3d2e4e7ee243b37bacf313dc4b"), looks := false }, kinds := [], alts := [], laidByText := true, laidKinds := [.widerDeep], laidTests := true, laidLooks := .later }
def FnExactAllowedExecsUptoCardSaid : Prop := Claim7.holds Tryz.pinned (.plain (OpenSpec.upto fnExactAllowedExecsSpec)) fnExactAllowedExecsUptoCard

/-- THE SECOND FORM's CARD OF 'laws.FnTsoFence'. -/
def fnTsoFenceUptoCard : Claim7 := { stood := { row := fnTsoFenceUptoRow, standIns := [], harness := (true, "710eef6c36ee1fa971e4bc84a638c6efa7da1a3d2e4e7ee243b37bacf313dc4b"), looks := false }, kinds := [], alts := [], laidByText := true, laidKinds := [.data, .widerDeep, .widerDeep, .pinned], laidTests := true, laidLooks := .later }
def FnTsoFenceUptoCardSaid : Prop := Claim7.holds Tryz.pinned (.plain (OpenSpec.upto fnTsoFenceSpec)) fnTsoFenceUptoCard

/-- THE SECOND FORM's CARD OF 'laws.FnAllowedExecs'. -/
def fnAllowedExecsUptoCard : Claim7 := { stood := { row := fnAllowedExecsUptoRow, standIns := [], harness := (true, "710eef6c36ee1fa971e4bc84a638c6efa7da1a3d2e4e7ee243b37bacf313dc4b"), looks := false }, kinds := [], alts := [], laidByText := true, laidKinds := [.widerDeep], laidTests := true, laidLooks := .later }
def FnAllowedExecsUptoCardSaid : Prop := Claim7.holds Tryz.pinned (.plain (OpenSpec.upto fnAllowedExecsSpec)) fnAllowedExecsUptoCard

/-- THE SECOND FORM's CARD OF 'laws.FnModelOrder'. -/
def fnModelOrderUptoCard : Claim7 := { stood := { row := fnModelOrderUptoRow, standIns := [], harness := (true, "710eef6c36ee1fa971e4bc84a638c6efa7da1a3d2e4e7ee243b37bacf313dc4b"), looks := false }, kinds := [], alts := [], laidByText := true, laidKinds := [.data, .widerDeep, .widerDeep, .pinned], laidTests := true, laidLooks := .later }
def FnModelOrderUptoCardSaid : Prop := Claim7.holds Tryz.pinned (.plain (OpenSpec.upto fnModelOrderSpec)) fnModelOrderUptoCard
end Rows
end Go.Proofs.YtfbgppkdnfljhaaGreatDoor
