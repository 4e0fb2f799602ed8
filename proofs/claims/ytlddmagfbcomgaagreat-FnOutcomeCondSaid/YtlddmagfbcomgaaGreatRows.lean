/-
  No cell of these rows narrows 'for every input' (looked for: loops, veiled, ifaces, maps, wideKeys, modest, calm, conditions, laid).
  DERIVED. THE GIVEN ROWS OF THIS SEAT. 6 by the template 'for every input the law returns true; each argument reads behind the call as it read before'; 0 by the template 'total and deterministic' (their statements: YtlddmagfbcomgaaGreatTotals.lean).
  GIVEN WITH THE SEED: the statements are not yours to turn. If you find one false, say at which input.
  Laid BY PROGRAM, IN A SANDBOX (cutbox-rows.mjs): the forced cells as the released guide's own fill.sh prints them over the translation a69a5187d22e6005… (all of the seat's roots in one cut). By AI agents, Wed Nov 11 2026. No macro, syntax, notation, axiom, sorry.
-/
import Derived.Test.YtlddmagfbcomgaaGreatChecked
import GoSem.Claim
import GoSem.ClaimJoined
import GoSem.ClaimMapViews
import Derived.JoinedTies
import Derived.KernelRfl
namespace Go.Proofs.YtlddmagfbcomgaaGreat
/- THE CELL 'sum', in the pinned program and in every row, IS THE sha256 OF THE DUMP (.gsa) THAT YtlddmagfbcomgaaGreatProg.lean LOADS. Nothing in Lean hashes anything: it is a label: what it is worth is what the hold of that sum in a sandbox is worth. -/
noncomputable def Tryz.pinned : Pinned := { name := "ytlddmagfbcomgaagreat", sum := "a69a5187d22e600551a714bd4bb75b880dae8407a0713d7b4986f77fea2a4771", checked := Tryz.checked }
namespace Rows
def none {H : Type} : Left H := { results := [], args := [] }

/-- 'laws.FnFencesForbid': WHATEVER THE INPUT: true; the input reads as it did. -/
def fnFencesForbidSpec : ChangeSpec := { name := "fnFencesForbid", fn := fun _ => fun
  | [d] => { results := [.lit (.bool true)], args := [d] }
  | _ => none }
def fnFencesForbidRow : OpenClaim := { program := "ytlddmagfbcomgaagreat", sum := "a69a5187d22e600551a714bd4bb75b880dae8407a0713d7b4986f77fea2a4771", func := "loop.example/weakmemory/laws.FnFencesForbid", spec := "fnFencesForbid", inPlace := ["slices.overlaps[loop.example/weakmemory/impl.Instr]"], unfollowed := true, recurses := true, apart := false }
def FnFencesForbidSaid : Prop := fnFencesForbidRow.holds Tryz.pinned (OpenSpec.ofChange fnFencesForbidSpec)

/-- ITS FALSE NEIGHBOUR: 'it returns false'. Refute it at one input. -/
def fnFencesForbidWrong : ChangeSpec := { name := "fnFencesForbid", fn := fun _ => fun
  | [d] => { results := [.lit (.bool false)], args := [d] }
  | _ => none }
def FnFencesForbidWrongFalsely : Prop := fnFencesForbidRow.holds Tryz.pinned (OpenSpec.ofChange fnFencesForbidWrong)

/-- 'laws.FnFullFences': WHATEVER THE INPUT: true; the input reads as it did. -/
def fnFullFencesSpec : ChangeSpec := { name := "fnFullFences", fn := fun _ => fun
  | [d] => { results := [.lit (.bool true)], args := [d] }
  | _ => none }
def fnFullFencesRow : OpenClaim := { program := "ytlddmagfbcomgaagreat", sum := "a69a5187d22e600551a714bd4bb75b880dae8407a0713d7b4986f77fea2a4771", func := "loop.example/weakmemory/laws.FnFullFences", spec := "fnFullFences", inPlace := ["slices.overlaps[loop.example/weakmemory/impl.Instr]"], unfollowed := true, recurses := true, apart := false }
def FnFullFencesSaid : Prop := fnFullFencesRow.holds Tryz.pinned (OpenSpec.ofChange fnFullFencesSpec)

/-- ITS FALSE NEIGHBOUR: 'it returns false'. Refute it at one input. -/
def fnFullFencesWrong : ChangeSpec := { name := "fnFullFences", fn := fun _ => fun
  | [d] => { results := [.lit (.bool false)], args := [d] }
  | _ => none }
def FnFullFencesWrongFalsely : Prop := fnFullFencesRow.holds Tryz.pinned (OpenSpec.ofChange fnFullFencesWrong)

/-- 'laws.FnRaceFree': WHATEVER THE INPUT: true; the input reads as it did. -/
def fnRaceFreeSpec : ChangeSpec := { name := "fnRaceFree", fn := fun _ => fun
  | [d] => { results := [.lit (.bool true)], args := [d] }
  | _ => none }
def fnRaceFreeRow : OpenClaim := { program := "ytlddmagfbcomgaagreat", sum := "a69a5187d22e600551a714bd4bb75b880dae8407a0713d7b4986f77fea2a4771", func := "loop.example/weakmemory/laws.FnRaceFree", spec := "fnRaceFree", unfollowed := true, recurses := true, apart := false }
def FnRaceFreeSaid : Prop := fnRaceFreeRow.holds Tryz.pinned (OpenSpec.ofChange fnRaceFreeSpec)

/-- ITS FALSE NEIGHBOUR: 'it returns false'. Refute it at one input. -/
def fnRaceFreeWrong : ChangeSpec := { name := "fnRaceFree", fn := fun _ => fun
  | [d] => { results := [.lit (.bool false)], args := [d] }
  | _ => none }
def FnRaceFreeWrongFalsely : Prop := fnRaceFreeRow.holds Tryz.pinned (OpenSpec.ofChange fnRaceFreeWrong)

/-- 'laws.FnOutcomeCond': WHATEVER THE INPUT: true; the input reads as it did. -/
def fnOutcomeCondSpec : ChangeSpec := { name := "fnOutcomeCond", fn := fun _ => fun
  | [d] => { results := [.lit (.bool true)], args := [d] }
  | _ => none }
def fnOutcomeCondRow : OpenClaim := { program := "ytlddmagfbcomgaagreat", sum := "a69a5187d22e600551a714bd4bb75b880dae8407a0713d7b4986f77fea2a4771", func := "loop.example/weakmemory/laws.FnOutcomeCond", spec := "fnOutcomeCond", unfollowed := true, recurses := true, apart := false }
def FnOutcomeCondSaid : Prop := fnOutcomeCondRow.holds Tryz.pinned (OpenSpec.ofChange fnOutcomeCondSpec)

/-- ITS FALSE NEIGHBOUR: 'it returns false'. Refute it at one input. -/
def fnOutcomeCondWrong : ChangeSpec := { name := "fnOutcomeCond", fn := fun _ => fun
  | [d] => { results := [.lit (.bool false)], args := [d] }
  | _ => none }
def FnOutcomeCondWrongFalsely : Prop := fnOutcomeCondRow.holds Tryz.pinned (OpenSpec.ofChange fnOutcomeCondWrong)

/-- 'laws.FnDelayFence': WHATEVER THE INPUT: true; the input reads as it did. -/
def fnDelayFenceSpec : ChangeSpec := { name := "fnDelayFence", fn := fun _ => fun
  | [d] => { results := [.lit (.bool true)], args := [d] }
  | _ => none }
def fnDelayFenceRow : OpenClaim := { program := "ytlddmagfbcomgaagreat", sum := "a69a5187d22e600551a714bd4bb75b880dae8407a0713d7b4986f77fea2a4771", func := "loop.example/weakmemory/laws.FnDelayFence", spec := "fnDelayFence", unfollowed := true, recurses := true, apart := false }
def FnDelayFenceSaid : Prop := fnDelayFenceRow.holds Tryz.pinned (OpenSpec.ofChange fnDelayFenceSpec)

/-- ITS FALSE NEIGHBOUR: 'it returns false'. Refute it at one input. -/
def fnDelayFenceWrong : ChangeSpec := { name := "fnDelayFence", fn := fun _ => fun
  | [d] => { results := [.lit (.bool false)], args := [d] }
  | _ => none }
def FnDelayFenceWrongFalsely : Prop := fnDelayFenceRow.holds Tryz.pinned (OpenSpec.ofChange fnDelayFenceWrong)

/-- 'laws.FnDelayGaps': WHATEVER THE INPUT: true; the input reads as it did. -/
def fnDelayGapsSpec : ChangeSpec := { name := "fnDelayGaps", fn := fun _ => fun
  | [d] => { results := [.lit (.bool true)], args := [d] }
  | _ => none }
def fnDelayGapsRow : OpenClaim := { program := "ytlddmagfbcomgaagreat", sum := "a69a5187d22e600551a714bd4bb75b880dae8407a0713d7b4986f77fea2a4771", func := "loop.example/weakmemory/laws.FnDelayGaps", spec := "fnDelayGaps", inPlace := ["slices.overlaps[loop.example/weakmemory/impl.Instr]"], unfollowed := true, recurses := true, apart := false }
def FnDelayGapsSaid : Prop := fnDelayGapsRow.holds Tryz.pinned (OpenSpec.ofChange fnDelayGapsSpec)

/-- ITS FALSE NEIGHBOUR: 'it returns false'. Refute it at one input. -/
def fnDelayGapsWrong : ChangeSpec := { name := "fnDelayGaps", fn := fun _ => fun
  | [d] => { results := [.lit (.bool false)], args := [d] }
  | _ => none }
def FnDelayGapsWrongFalsely : Prop := fnDelayGapsRow.holds Tryz.pinned (OpenSpec.ofChange fnDelayGapsWrong)

/- THE SECOND FORM. 'bulk': how many values and letters a reading holds, each counted each time it is reached (what is shared counts as often as it is met; a slice's spare places count too). A statement '..UptoSaid' is the law's where the arguments, and the package variables that the reading takes, are together of bulk at most 1048576: NARROWER than '..Said'. Prove '..Said' where nothing that the law and all that it calls make is longer than what came in: it says more and counts as full. Else prove '..UptoSaid'. A law counts once. -/
mutual
def uptoBulk {H : Type} : DataW H → Nat
  | .lit (.string bytes) => bytes.length + 1
  | .lit _ => 1
  | .nil => 1
  | .ptr d => uptoBulk d + 1
  | .slice elems spare => uptoBulkAll elems + uptoBulkAll spare + 1
  | .agg parts => uptoBulkAll parts + 1
  | .iface _ d => uptoBulk d + 1
  | .map entries => uptoBulkEntries entries + 1
  | .held _ => 1
def uptoBulkAll {H : Type} : List (DataW H) → Nat
  | [] => 0
  | d :: r => uptoBulk d + uptoBulkAll r
def uptoBulkEntries {H : Type} : List (Lit × DataW H) → Nat
  | [] => 0
  | x :: r => uptoBulkEntry x + uptoBulkEntries r
def uptoBulkEntry {H : Type} : Lit × DataW H → Nat
  | (.string bytes, d) => bytes.length + uptoBulk d + 1
  | (_, d) => uptoBulk d + 1
 end
def uptoSmall : (H : Type) → List (DataW H) → Bool := fun _ ds => decide (uptoBulkAll ds ≤ 1048576)
def OpenSpec.upto (s : _root_.Go.ChangeSpec) : _root_.Go.OpenSpec := { _root_.Go.OpenSpec.ofChange s with cond := some uptoSmall }

/-- 'laws.FnFencesForbid', WHERE WHAT IT READS IS OF BULK AT MOST 1048576: true; the input reads as it did. -/
def fnFencesForbidUptoRow : OpenClaim := { program := "ytlddmagfbcomgaagreat", sum := "a69a5187d22e600551a714bd4bb75b880dae8407a0713d7b4986f77fea2a4771", func := "loop.example/weakmemory/laws.FnFencesForbid", spec := "fnFencesForbid", inPlace := ["slices.overlaps[loop.example/weakmemory/impl.Instr]"], unfollowed := true, recurses := true, apart := false, narrowed := true }
def FnFencesForbidUptoSaid : Prop := fnFencesForbidUptoRow.holds Tryz.pinned (OpenSpec.upto fnFencesForbidSpec)

/-- 'laws.FnFullFences', WHERE WHAT IT READS IS OF BULK AT MOST 1048576: true; the input reads as it did. -/
def fnFullFencesUptoRow : OpenClaim := { program := "ytlddmagfbcomgaagreat", sum := "a69a5187d22e600551a714bd4bb75b880dae8407a0713d7b4986f77fea2a4771", func := "loop.example/weakmemory/laws.FnFullFences", spec := "fnFullFences", inPlace := ["slices.overlaps[loop.example/weakmemory/impl.Instr]"], unfollowed := true, recurses := true, apart := false, narrowed := true }
def FnFullFencesUptoSaid : Prop := fnFullFencesUptoRow.holds Tryz.pinned (OpenSpec.upto fnFullFencesSpec)

/-- 'laws.FnRaceFree', WHERE WHAT IT READS IS OF BULK AT MOST 1048576: true; the input reads as it did. -/
def fnRaceFreeUptoRow : OpenClaim := { program := "ytlddmagfbcomgaagreat", sum := "a69a5187d22e600551a714bd4bb75b880dae8407a0713d7b4986f77fea2a4771", func := "loop.example/weakmemory/laws.FnRaceFree", spec := "fnRaceFree", unfollowed := true, recurses := true, apart := false, narrowed := true }
def FnRaceFreeUptoSaid : Prop := fnRaceFreeUptoRow.holds Tryz.pinned (OpenSpec.upto fnRaceFreeSpec)

/-- 'laws.FnOutcomeCond', WHERE WHAT IT READS IS OF BULK AT MOST 1048576: true; the input reads as it did. -/
def fnOutcomeCondUptoRow : OpenClaim := { program := "ytlddmagfbcomgaagreat", sum := "a69a5187d22e600551a714bd4bb75b880dae8407a0713d7b4986f77fea2a4771", func := "loop.example/weakmemory/laws.FnOutcomeCond", spec := "fnOutcomeCond", unfollowed := true, recurses := true, apart := false, narrowed := true }
def FnOutcomeCondUptoSaid : Prop := fnOutcomeCondUptoRow.holds Tryz.pinned (OpenSpec.upto fnOutcomeCondSpec)

/-- 'laws.FnDelayFence', WHERE WHAT IT READS IS OF BULK AT MOST 1048576: true; the input reads as it did. -/
def fnDelayFenceUptoRow : OpenClaim := { program := "ytlddmagfbcomgaagreat", sum := "a69a5187d22e600551a714bd4bb75b880dae8407a0713d7b4986f77fea2a4771", func := "loop.example/weakmemory/laws.FnDelayFence", spec := "fnDelayFence", unfollowed := true, recurses := true, apart := false, narrowed := true }
def FnDelayFenceUptoSaid : Prop := fnDelayFenceUptoRow.holds Tryz.pinned (OpenSpec.upto fnDelayFenceSpec)

/-- 'laws.FnDelayGaps', WHERE WHAT IT READS IS OF BULK AT MOST 1048576: true; the input reads as it did. -/
def fnDelayGapsUptoRow : OpenClaim := { program := "ytlddmagfbcomgaagreat", sum := "a69a5187d22e600551a714bd4bb75b880dae8407a0713d7b4986f77fea2a4771", func := "loop.example/weakmemory/laws.FnDelayGaps", spec := "fnDelayGaps", inPlace := ["slices.overlaps[loop.example/weakmemory/impl.Instr]"], unfollowed := true, recurses := true, apart := false, narrowed := true }
def FnDelayGapsUptoSaid : Prop := fnDelayGapsUptoRow.holds Tryz.pinned (OpenSpec.upto fnDelayGapsSpec)

end Rows
end Go.Proofs.YtlddmagfbcomgaaGreat
