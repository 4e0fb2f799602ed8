/-
  NARROWER THAN 'FOR EVERY INPUT', by the rows' own cells (each row's printed sentence says how): FnExactExecFor: loops, laid · FnExactModelOutcomes: loops, laid · FnModelSorted: laid.
  DERIVED. THE GIVEN ROWS OF THIS SEAT. 3 by the template 'for every input the law returns true; each argument reads behind the call as it read before'; 0 by the template 'total and deterministic' (their statements: YtkfhgnkonaafgaaGreatDoorTotals.lean).
  GIVEN WITH THE SEED: the statements are not yours to turn. If you find one false, say at which input.
  Laid BY PROGRAM, IN A SANDBOX (cutbox-rows.mjs): the forced cells as the released guide's own fill.sh prints them over the translation e5bd5b6eef9aa0e4… (all of the seat's roots in one cut). By AI agents, Wed Nov 11 2026. No macro, syntax, notation, axiom, sorry.
-/
import Derived.Test.YtkfhgnkonaafgaaGreatDoorChecked
import GoSem.Claim
import GoSem.ClaimJoined
import GoSem.ClaimMapViews
import Derived.JoinedTies
import Derived.KernelRfl
namespace Go.Proofs.YtkfhgnkonaafgaaGreatDoor
/- THE CELL 'sum', in the pinned program and in every row, IS THE sha256 OF THE DUMP (.gsa) THAT YtkfhgnkonaafgaaGreatDoorProg.lean LOADS. Nothing in Lean hashes anything: it is a label: what it is worth is what the hold of that sum in a sandbox is worth. -/
noncomputable def Tryz.pinned : Pinned := { name := "ytkfhgnkonaafgaagreatdoor", sum := "e5bd5b6eef9aa0e4eeeba7a3c71bbdf941fff56c0738fa2baecc38fa6ddb4770", checked := Tryz.checked }
namespace Rows
def none {H : Type} : Left H := { results := [], args := [] }

/- WHAT THE LISTED PACKAGE-LEVEL VARIABLES READ AS WHEN THE CALL BEGINS. Each datum BY PROGRAM (the guide's laid-datum.mjs) off the statement by which the dump's own 'gosem.cut.vars' lays the variable. In a bare row this is a premise. The card (YtkfhgnkonaafgaaGreatDoorCards.lean) ties it to the program's text. -/
def laid_loop_example_weakmemory_impl_relNames {H : Type} : DataW H := .agg [.lit (.string [112, 111]), .lit (.string [108, 111, 99]), .lit (.string [101, 120, 116]), .lit (.string [114, 102]), .lit (.string [99, 111]), .lit (.string [102, 114]), .lit (.string [102, 101, 110, 99, 101]), .lit (.string [119, 114]), .lit (.string [119, 119]), .lit (.string [105, 100])]

/-- 'laws.FnExactExecFor': WHATEVER THE INPUT: true; the input reads as it did. -/
def fnExactExecForSpec : ChangeSpec := { name := "fnExactExecFor", vars := ["loop.example/weakmemory/impl.relNames"], fn := fun _ => fun
  | [d1, d2, d3, g1] => { results := [.lit (.bool true)], args := [d1, d2, d3], vars := [g1] }
  | _ => none }
def fnExactExecForRow : OpenClaim := { program := "ytkfhgnkonaafgaagreatdoor", sum := "e5bd5b6eef9aa0e4eeeba7a3c71bbdf941fff56c0738fa2baecc38fa6ddb4770", func := "loop.example/weakmemory/laws.FnExactExecFor", spec := "fnExactExecFor", unfollowed := true, recurses := true, named := ["loop.example/weakmemory/impl.relNames"], loops := true, apart := false, laid := [("loop.example/weakmemory/impl.relNames", laid_loop_example_weakmemory_impl_relNames)] }
def FnExactExecForSaid : Prop := fnExactExecForRow.holds Tryz.pinned (OpenSpec.ofChange fnExactExecForSpec)

/-- ITS FALSE NEIGHBOUR: 'it returns false'. Refute it at one input. -/
def fnExactExecForWrong : ChangeSpec := { name := "fnExactExecFor", vars := ["loop.example/weakmemory/impl.relNames"], fn := fun _ => fun
  | [d1, d2, d3, g1] => { results := [.lit (.bool false)], args := [d1, d2, d3], vars := [g1] }
  | _ => none }
def FnExactExecForWrongFalsely : Prop := fnExactExecForRow.holds Tryz.pinned (OpenSpec.ofChange fnExactExecForWrong)

/-- 'laws.FnExactModelOutcomes': WHATEVER THE INPUT: true; the input reads as it did. -/
def fnExactModelOutcomesSpec : ChangeSpec := { name := "fnExactModelOutcomes", vars := ["loop.example/weakmemory/impl.relNames"], fn := fun _ => fun
  | [d1, d2, g1] => { results := [.lit (.bool true)], args := [d1, d2], vars := [g1] }
  | _ => none }
def fnExactModelOutcomesRow : OpenClaim := { program := "ytkfhgnkonaafgaagreatdoor", sum := "e5bd5b6eef9aa0e4eeeba7a3c71bbdf941fff56c0738fa2baecc38fa6ddb4770", func := "loop.example/weakmemory/laws.FnExactModelOutcomes", spec := "fnExactModelOutcomes", unfollowed := true, recurses := true, named := ["loop.example/weakmemory/impl.relNames"], loops := true, apart := false, laid := [("loop.example/weakmemory/impl.relNames", laid_loop_example_weakmemory_impl_relNames)] }
def FnExactModelOutcomesSaid : Prop := fnExactModelOutcomesRow.holds Tryz.pinned (OpenSpec.ofChange fnExactModelOutcomesSpec)

/-- ITS FALSE NEIGHBOUR: 'it returns false'. Refute it at one input. -/
def fnExactModelOutcomesWrong : ChangeSpec := { name := "fnExactModelOutcomes", vars := ["loop.example/weakmemory/impl.relNames"], fn := fun _ => fun
  | [d1, d2, g1] => { results := [.lit (.bool false)], args := [d1, d2], vars := [g1] }
  | _ => none }
def FnExactModelOutcomesWrongFalsely : Prop := fnExactModelOutcomesRow.holds Tryz.pinned (OpenSpec.ofChange fnExactModelOutcomesWrong)

/-- 'laws.FnModelSorted': WHATEVER THE INPUT: true; the input reads as it did. -/
def fnModelSortedSpec : ChangeSpec := { name := "fnModelSorted", vars := ["loop.example/weakmemory/impl.relNames"], fn := fun _ => fun
  | [d, g1] => { results := [.lit (.bool true)], args := [d], vars := [g1] }
  | _ => none }
def fnModelSortedRow : OpenClaim := { program := "ytkfhgnkonaafgaagreatdoor", sum := "e5bd5b6eef9aa0e4eeeba7a3c71bbdf941fff56c0738fa2baecc38fa6ddb4770", func := "loop.example/weakmemory/laws.FnModelSorted", spec := "fnModelSorted", unfollowed := true, recurses := true, named := ["loop.example/weakmemory/impl.relNames"], apart := false, laid := [("loop.example/weakmemory/impl.relNames", laid_loop_example_weakmemory_impl_relNames)] }
def FnModelSortedSaid : Prop := fnModelSortedRow.holds Tryz.pinned (OpenSpec.ofChange fnModelSortedSpec)

/-- ITS FALSE NEIGHBOUR: 'it returns false'. Refute it at one input. -/
def fnModelSortedWrong : ChangeSpec := { name := "fnModelSorted", vars := ["loop.example/weakmemory/impl.relNames"], fn := fun _ => fun
  | [d, g1] => { results := [.lit (.bool false)], args := [d], vars := [g1] }
  | _ => none }
def FnModelSortedWrongFalsely : Prop := fnModelSortedRow.holds Tryz.pinned (OpenSpec.ofChange fnModelSortedWrong)

/- THE SECOND FORM. 'bulk': how many values and letters a reading holds, each counted each time it is reached (what is shared counts as often as it is met; a slice's spare places count too). A statement '..UptoSaid' is the law's where the arguments, and the package variables that the reading takes, are together of bulk at most 1048576: NARROWER than '..Said'. Prove '..Said' where nothing that the law and all that it calls make is longer than what came in: it says more and counts as full. Else prove '..UptoSaid'. A law counts once. -/
mutual
def uptoBulk {H : Type} : DataW H → Nat
  | .lit (.string bytes) => bytes.length + 1
  | .lit _ => 1
  | .nil => 1
  | .ptr d => uptoBulk d + 1
  | .slice elems spare => uptoBulkAll elems + uptoBulkAll spare + 1
  | .agg parts => uptoBulkAll parts + 1
  | .iface _ d => uptoBulk d + 1
  | .map entries => uptoBulkEntries entries + 1
  | .held _ => 1
def uptoBulkAll {H : Type} : List (DataW H) → Nat
  | [] => 0
  | d :: r => uptoBulk d + uptoBulkAll r
def uptoBulkEntries {H : Type} : List (Lit × DataW H) → Nat
  | [] => 0
  | x :: r => uptoBulkEntry x + uptoBulkEntries r
def uptoBulkEntry {H : Type} : Lit × DataW H → Nat
  | (.string bytes, d) => bytes.length + uptoBulk d + 1
  | (_, d) => uptoBulk d + 1
 end
def uptoSmall : (H : Type) → List (DataW H) → Bool := fun _ ds => decide (uptoBulkAll ds ≤ 1048576)
def OpenSpec.upto (s : _root_.Go.ChangeSpec) : _root_.Go.OpenSpec := { _root_.Go.OpenSpec.ofChange s with cond := some uptoSmall }

/-- 'laws.FnExactExecFor', WHERE WHAT IT READS IS OF BULK AT MOST 1048576: true; the input reads as it did. -/
def fnExactExecForUptoRow : OpenClaim := { program := "ytkfhgnkonaafgaagreatdoor", sum := "e5bd5b6eef9aa0e4eeeba7a3c71bbdf941fff56c0738fa2baecc38fa6ddb4770", func := "loop.example/weakmemory/laws.FnExactExecFor", spec := "fnExactExecFor", unfollowed := true, recurses := true, named := ["loop.example/weakmemory/impl.relNames"], loops := true, apart := false, laid := [("loop.example/weakmemory/impl.relNames", laid_loop_example_weakmemory_impl_relNames)], narrowed := true }
def FnExactExecForUptoSaid : Prop := fnExactExecForUptoRow.holds Tryz.pinned (OpenSpec.upto fnExactExecForSpec)

/-- 'laws.FnExactModelOutcomes', WHERE WHAT IT READS IS OF BULK AT MOST 1048576: true; the input reads as it did. -/
def fnExactModelOutcomesUptoRow : OpenClaim := { program := "ytkfhgnkonaafgaagreatdoor", sum := "e5bd5b6eef9aa0e4eeeba7a3c71bbdf941fff56c0738fa2baecc38fa6ddb4770", func := "loop.example/weakmemory/laws.FnExactModelOutcomes", spec := "fnExactModelOutcomes", unfollowed := true, recurses := true, named := ["loop.example/weakmemory/impl.relNames"], loops := true, apart := false, laid := [("loop.example/weakmemory/impl.relNames", laid_loop_example_weakmemory_impl_relNames)], narrowed := true }
def FnExactModelOutcomesUptoSaid : Prop := fnExactModelOutcomesUptoRow.holds Tryz.pinned (OpenSpec.upto fnExactModelOutcomesSpec)

/-- 'laws.FnModelSorted', WHERE WHAT IT READS IS OF BULK AT MOST 1048576: true; the input reads as it did. -/
def fnModelSortedUptoRow : OpenClaim := { program := "ytkfhgnkonaafgaagreatdoor", sum := "e5bd5b6eef9aa0e4eeeba7a3c71bbdf941fff56c0738fa2baecc38fa6ddb4770", func := "loop.example/weakmemory/laws.FnModelSorted", spec := "fnModelSorted", unfollowed := true, recurses := true, named := ["loop.example/weakmemory/impl.relNames"], apart := false, laid := [("loop.example/weakmemory/impl.relNames", laid_loop_example_weakmemory_impl_relNames)], narrowed := true }
def FnModelSortedUptoSaid : Prop := fnModelSortedUptoRow.holds Tryz.pinned (OpenSpec.upto fnModelSortedSpec)

end Rows
end Go.Proofs.YtkfhgnkonaafgaaGreatDoor
