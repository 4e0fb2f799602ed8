/-
  No cell of these rows narrows 'for every input' (looked for: loops, veiled, ifaces, maps, wideKeys, modest, calm, conditions, laid).
  DERIVED. THE GIVEN ROWS OF THIS SEAT. 3 by the template 'for every input the law returns true; each argument reads behind the call as it read before'; 0 by the template 'total and deterministic' (their statements: YtblheabgjjeigaaTotals.lean).
  GIVEN WITH THE SEED: the statements are not yours to turn. If you find one false, say at which input.
  Laid BY PROGRAM, IN A SANDBOX (cutbox-rows.mjs): the forced cells as the released guide's own fill.sh prints them over the translation 97d8a92922663578… (all of the seat's roots in one cut). By AI agents, Wed Nov 11 2026. No macro, syntax, notation, axiom, sorry.
-/
import Derived.Test.YtblheabgjjeigaaChecked
import GoSem.Claim
import GoSem.ClaimJoined
import GoSem.ClaimMapViews
import Derived.JoinedTies
import Derived.KernelRfl
namespace Go.Proofs.Ytblheabgjjeigaa
/- THE CELL 'sum', in the pinned program and in every row, IS THE sha256 OF THE DUMP (.gsa) THAT YtblheabgjjeigaaProg.lean LOADS. Nothing in Lean hashes anything: it is a label: what it is worth is what the hold of that sum in a sandbox is worth. -/
noncomputable def Try.pinned : Pinned := { name := "ytblheabgjjeigaa", sum := "97d8a929226635783e848cf3173d7adac00079557792a03b6d97b98da485328c", checked := Try.checked }
namespace Rows
def none {H : Type} : Left H := { results := [], args := [] }

/-- 'laws.FnValuesOf': WHATEVER THE INPUT: true; the input reads as it did. -/
def fnValuesOfSpec : ChangeSpec := { name := "fnValuesOf", fn := fun _ => fun
  | [d] => { results := [.lit (.bool true)], args := [d] }
  | _ => none }
def fnValuesOfRow : OpenClaim := { program := "ytblheabgjjeigaa", sum := "97d8a929226635783e848cf3173d7adac00079557792a03b6d97b98da485328c", func := "loop.example/weakmemory/laws.FnValuesOf", spec := "fnValuesOf", unfollowed := true, recurses := true, apart := false }
def FnValuesOfSaid : Prop := fnValuesOfRow.holds Try.pinned (OpenSpec.ofChange fnValuesOfSpec)

/-- ITS FALSE NEIGHBOUR: 'it returns false'. Refute it at one input. -/
def fnValuesOfWrong : ChangeSpec := { name := "fnValuesOf", fn := fun _ => fun
  | [d] => { results := [.lit (.bool false)], args := [d] }
  | _ => none }
def FnValuesOfWrongFalsely : Prop := fnValuesOfRow.holds Try.pinned (OpenSpec.ofChange fnValuesOfWrong)

/-- 'laws.FnOutcomeOf': WHATEVER THE INPUT: true; the input reads as it did. -/
def fnOutcomeOfSpec : ChangeSpec := { name := "fnOutcomeOf", fn := fun _ => fun
  | [d] => { results := [.lit (.bool true)], args := [d] }
  | _ => none }
def fnOutcomeOfRow : OpenClaim := { program := "ytblheabgjjeigaa", sum := "97d8a929226635783e848cf3173d7adac00079557792a03b6d97b98da485328c", func := "loop.example/weakmemory/laws.FnOutcomeOf", spec := "fnOutcomeOf", unfollowed := true, recurses := true, apart := false }
def FnOutcomeOfSaid : Prop := fnOutcomeOfRow.holds Try.pinned (OpenSpec.ofChange fnOutcomeOfSpec)

/-- ITS FALSE NEIGHBOUR: 'it returns false'. Refute it at one input. -/
def fnOutcomeOfWrong : ChangeSpec := { name := "fnOutcomeOf", fn := fun _ => fun
  | [d] => { results := [.lit (.bool false)], args := [d] }
  | _ => none }
def FnOutcomeOfWrongFalsely : Prop := fnOutcomeOfRow.holds Try.pinned (OpenSpec.ofChange fnOutcomeOfWrong)

/-- 'laws.FnExecFence': WHATEVER THE INPUT: true; the input reads as it did. -/
def fnExecFenceSpec : ChangeSpec := { name := "fnExecFence", fn := fun _ => fun
  | [d] => { results := [.lit (.bool true)], args := [d] }
  | _ => none }
def fnExecFenceRow : OpenClaim := { program := "ytblheabgjjeigaa", sum := "97d8a929226635783e848cf3173d7adac00079557792a03b6d97b98da485328c", func := "loop.example/weakmemory/laws.FnExecFence", spec := "fnExecFence", unfollowed := true, recurses := true, apart := false }
def FnExecFenceSaid : Prop := fnExecFenceRow.holds Try.pinned (OpenSpec.ofChange fnExecFenceSpec)

/-- ITS FALSE NEIGHBOUR: 'it returns false'. Refute it at one input. -/
def fnExecFenceWrong : ChangeSpec := { name := "fnExecFence", fn := fun _ => fun
  | [d] => { results := [.lit (.bool false)], args := [d] }
  | _ => none }
def FnExecFenceWrongFalsely : Prop := fnExecFenceRow.holds Try.pinned (OpenSpec.ofChange fnExecFenceWrong)

/- THE SECOND FORM. 'bulk': how many values and letters a reading holds, each counted each time it is reached (what is shared counts as often as it is met; a slice's spare places count too). A statement '..UptoSaid' is the law's where the arguments, and the package variables that the reading takes, are together of bulk at most 1048576: NARROWER than '..Said'. Prove '..Said' where nothing that the law and all that it calls make is longer than what came in: it says more and counts as full. Else prove '..UptoSaid'. A law counts once. -/
mutual
def uptoBulk {H : Type} : DataW H → Nat
  | .lit (.string bytes) => bytes.length + 1
  | .lit _ => 1
  | .nil => 1
  | .ptr d => uptoBulk d + 1
  | .slice elems spare => uptoBulkAll elems + uptoBulkAll spare + 1
  | .agg parts => uptoBulkAll parts + 1
  | .iface _ d => uptoBulk d + 1
  | .map entries => uptoBulkEntries entries + 1
  | .held _ => 1
def uptoBulkAll {H : Type} : List (DataW H) → Nat
  | [] => 0
  | d :: r => uptoBulk d + uptoBulkAll r
def uptoBulkEntries {H : Type} : List (Lit × DataW H) → Nat
  | [] => 0
  | x :: r => uptoBulkEntry x + uptoBulkEntries r
def uptoBulkEntry {H : Type} : Lit × DataW H → Nat
  | (.string bytes, d) => bytes.length + uptoBulk d + 1
  | (_, d) => uptoBulk d + 1
 end
def uptoSmall : (H : Type) → List (DataW H) → Bool := fun _ ds => decide (uptoBulkAll ds ≤ 1048576)
def OpenSpec.upto (s : _root_.Go.ChangeSpec) : _root_.Go.OpenSpec := { _root_.Go.OpenSpec.ofChange s with cond := some uptoSmall }

/-- 'laws.FnValuesOf', WHERE WHAT IT READS IS OF BULK AT MOST 1048576: true; the input reads as it did. -/
def fnValuesOfUptoRow : OpenClaim := { program := "ytblheabgjjeigaa", sum := "97d8a929226635783e848cf3173d7adac00079557792a03b6d97b98da485328c", func := "loop.example/weakmemory/laws.FnValuesOf", spec := "fnValuesOf", unfollowed := true, recurses := true, apart := false, narrowed := true }
def FnValuesOfUptoSaid : Prop := fnValuesOfUptoRow.holds Try.pinned (OpenSpec.upto fnValuesOfSpec)

/-- 'laws.FnOutcomeOf', WHERE WHAT IT READS IS OF BULK AT MOST 1048576: true; the input reads as it did. -/
def fnOutcomeOfUptoRow : OpenClaim := { program := "ytblheabgjjeigaa", sum := "97d8a929226635783e848cf3173d7adac00079557792a03b6d97b98da485328c", func := "loop.example/weakmemory/laws.FnOutcomeOf", spec := "fnOutcomeOf", unfollowed := true, recurses := true, apart := false, narrowed := true }
def FnOutcomeOfUptoSaid : Prop := fnOutcomeOfUptoRow.holds Try.pinned (OpenSpec.upto fnOutcomeOfSpec)

/-- 'laws.FnExecFence', WHERE WHAT IT READS IS OF BULK AT MOST 1048576: true; the input reads as it did. -/
def fnExecFenceUptoRow : OpenClaim := { program := "ytblheabgjjeigaa", sum := "97d8a929226635783e848cf3173d7adac00079557792a03b6d97b98da485328c", func := "loop.example/weakmemory/laws.FnExecFence", spec := "fnExecFence", unfollowed := true, recurses := true, apart := false, narrowed := true }
def FnExecFenceUptoSaid : Prop := fnExecFenceUptoRow.holds Try.pinned (OpenSpec.upto fnExecFenceSpec)

end Rows
end Go.Proofs.Ytblheabgjjeigaa
