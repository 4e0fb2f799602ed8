/-
  DERIVED. GIVEN WITH THE SEED: THE CARDS: each row of YtfbgppkdnfljhaaDoorRows.lean that lists a variable, with what it lists TIED to the program's text (the seventh form; the later family's looks); each row that meets fmt, with fmt's text TOLD by the authors' own Lean function (tested against real Go, not proved from fmt's source: count such statements apart). THE CARD IS WHAT COUNTS. Prove the row's statement (the work); the ties are given (YtfbgppkdnfljhaaDoorTie.lean); close each card by the builder's one call (the guide's Derived/Test/ToyasCard.lean, 'card_holds'). Laid BY PROGRAM, IN A SANDBOX (cutbox-door.mjs). By AI agents, Wed Nov 11 2026. No macro, syntax, notation, axiom, sorry.
-/
import Derived.Test.YtfbgppkdnfljhaaDoorRows
import GoSem.ClaimSeven
namespace Go.Proofs.YtfbgppkdnfljhaaDoor
namespace Rows

/-- THE TIED CARD OF 'laws.FnModelNamed'. -/
def fnModelNamedCard : Claim7 := { stood := { row := fnModelNamedRow, standIns := [], harness := (true, "34096c7829ec7e08d72d5ce8a53f720b2a2253e027b66d675b3d92951b785c2a"), looks := false }, kinds := [], alts := [], laidByText := true, laidKinds := [.data, .widerDeep, .widerDeep, .pinned], laidTests := true, laidLooks := .later }
def FnModelNamedCardSaid : Prop := Claim7.holds Tryd.pinned (.plain (OpenSpec.ofChange fnModelNamedSpec)) fnModelNamedCard

/-- THE TIED CARD OF 'laws.FnExactModelOf'. -/
def fnExactModelOfCard : Claim7 := { stood := { row := fnExactModelOfRow, standIns := [], harness := (true, "34096c7829ec7e08d72d5ce8a53f720b2a2253e027b66d675b3d92951b785c2a"), looks := false }, kinds := [], alts := [], laidByText := true, laidKinds := [.data, .widerDeep, .widerDeep, .pinned], laidTests := true, laidLooks := .later }
def FnExactModelOfCardSaid : Prop := Claim7.holds Tryd.pinned (.plain (OpenSpec.ofChange fnExactModelOfSpec)) fnExactModelOfCard

/-- THE SECOND FORM's CARD OF 'laws.FnModelNamed'. -/
def fnModelNamedUptoCard : Claim7 := { stood := { row := fnModelNamedUptoRow, standIns := [], harness := (true, "34096c7829ec7e08d72d5ce8a53f720b2a2253e027b66d675b3d92951b785c2a"), looks := false }, kinds := [], alts := [], laidByText := true, laidKinds := [.data, .widerDeep, .widerDeep, .pinned], laidTests := true, laidLooks := .later }
def FnModelNamedUptoCardSaid : Prop := Claim7.holds Tryd.pinned (.plain (OpenSpec.upto fnModelNamedSpec)) fnModelNamedUptoCard

/-- THE SECOND FORM's CARD OF 'laws.FnExactModelOf'. -/
def fnExactModelOfUptoCard : Claim7 := { stood := { row := fnExactModelOfUptoRow, standIns := [], harness := (true, "34096c7829ec7e08d72d5ce8a53f720b2a2253e027b66d675b3d92951b785c2a"), looks := false }, kinds := [], alts := [], laidByText := true, laidKinds := [.data, .widerDeep, .widerDeep, .pinned], laidTests := true, laidLooks := .later }
def FnExactModelOfUptoCardSaid : Prop := Claim7.holds Tryd.pinned (.plain (OpenSpec.upto fnExactModelOfSpec)) fnExactModelOfUptoCard
end Rows
end Go.Proofs.YtfbgppkdnfljhaaDoor
