/-
  No cell of these rows narrows 'for every input' (looked for: loops, veiled, ifaces, maps, wideKeys, modest, calm, conditions, laid).
  DERIVED. THE GIVEN ROWS OF THIS SEAT. 7 by the template 'for every input the law returns true; each argument reads behind the call as it read before'; 0 by the template 'total and deterministic' (their statements: YtbndkefoinmmgaaTotals.lean).
  GIVEN WITH THE SEED: the statements are not yours to turn. If you find one false, say at which input.
  Laid BY PROGRAM, IN A SANDBOX (cutbox-rows.mjs): the forced cells as the released guide's own fill.sh prints them over the translation da288d4bf8e1f998… (all of the seat's roots in one cut). By AI agents, Wed Nov 11 2026. No macro, syntax, notation, axiom, sorry.
-/
import Derived.Test.YtbndkefoinmmgaaChecked
import GoSem.Claim
import GoSem.ClaimJoined
import GoSem.ClaimMapViews
import Derived.JoinedTies
import Derived.KernelRfl
namespace Go.Proofs.Ytbndkefoinmmgaa
/- THE CELL 'sum', in the pinned program and in every row, IS THE sha256 OF THE DUMP (.gsa) THAT YtbndkefoinmmgaaProg.lean LOADS. Nothing in Lean hashes anything: it is a label: what it is worth is what the hold of that sum in a sandbox is worth. -/
noncomputable def Try.pinned : Pinned := { name := "ytbndkefoinmmgaa", sum := "da288d4bf8e1f99836660dd910a96cd3f2ce2ea936e57df53998eb8987619223", checked := Try.checked }
namespace Rows
def none {H : Type} : Left H := { results := [], args := [] }

/-- 'laws.FnExactDelayRel': WHATEVER THE INPUT: true; the input reads as it did. -/
def fnExactDelayRelSpec : ChangeSpec := { name := "fnExactDelayRel", fn := fun _ => fun
  | [d] => { results := [.lit (.bool true)], args := [d] }
  | _ => none }
def fnExactDelayRelRow : OpenClaim := { program := "ytbndkefoinmmgaa", sum := "da288d4bf8e1f99836660dd910a96cd3f2ce2ea936e57df53998eb8987619223", func := "loop.example/weakmemory/laws.FnExactDelayRel", spec := "fnExactDelayRel", unfollowed := true, recurses := true, apart := false }
def FnExactDelayRelSaid : Prop := fnExactDelayRelRow.holds Try.pinned (OpenSpec.ofChange fnExactDelayRelSpec)

/-- ITS FALSE NEIGHBOUR: 'it returns false'. Refute it at one input. -/
def fnExactDelayRelWrong : ChangeSpec := { name := "fnExactDelayRel", fn := fun _ => fun
  | [d] => { results := [.lit (.bool false)], args := [d] }
  | _ => none }
def FnExactDelayRelWrongFalsely : Prop := fnExactDelayRelRow.holds Try.pinned (OpenSpec.ofChange fnExactDelayRelWrong)

/-- 'laws.FnExactDelayGaps': WHATEVER THE INPUT: true; the input reads as it did. -/
def fnExactDelayGapsSpec : ChangeSpec := { name := "fnExactDelayGaps", fn := fun _ => fun
  | [d] => { results := [.lit (.bool true)], args := [d] }
  | _ => none }
def fnExactDelayGapsRow : OpenClaim := { program := "ytbndkefoinmmgaa", sum := "da288d4bf8e1f99836660dd910a96cd3f2ce2ea936e57df53998eb8987619223", func := "loop.example/weakmemory/laws.FnExactDelayGaps", spec := "fnExactDelayGaps", unfollowed := true, recurses := true, apart := false }
def FnExactDelayGapsSaid : Prop := fnExactDelayGapsRow.holds Try.pinned (OpenSpec.ofChange fnExactDelayGapsSpec)

/-- ITS FALSE NEIGHBOUR: 'it returns false'. Refute it at one input. -/
def fnExactDelayGapsWrong : ChangeSpec := { name := "fnExactDelayGaps", fn := fun _ => fun
  | [d] => { results := [.lit (.bool false)], args := [d] }
  | _ => none }
def FnExactDelayGapsWrongFalsely : Prop := fnExactDelayGapsRow.holds Try.pinned (OpenSpec.ofChange fnExactDelayGapsWrong)

/-- 'laws.FnExactPutFences': WHATEVER THE INPUT: true; the input reads as it did. -/
def fnExactPutFencesSpec : ChangeSpec := { name := "fnExactPutFences", fn := fun _ => fun
  | [d1, d2] => { results := [.lit (.bool true)], args := [d1, d2] }
  | _ => none }
def fnExactPutFencesRow : OpenClaim := { program := "ytbndkefoinmmgaa", sum := "da288d4bf8e1f99836660dd910a96cd3f2ce2ea936e57df53998eb8987619223", func := "loop.example/weakmemory/laws.FnExactPutFences", spec := "fnExactPutFences", inPlace := ["slices.overlaps[loop.example/weakmemory/impl.Instr]"], unfollowed := true, recurses := true, apart := false }
def FnExactPutFencesSaid : Prop := fnExactPutFencesRow.holds Try.pinned (OpenSpec.ofChange fnExactPutFencesSpec)

/-- ITS FALSE NEIGHBOUR: 'it returns false'. Refute it at one input. -/
def fnExactPutFencesWrong : ChangeSpec := { name := "fnExactPutFences", fn := fun _ => fun
  | [d1, d2] => { results := [.lit (.bool false)], args := [d1, d2] }
  | _ => none }
def FnExactPutFencesWrongFalsely : Prop := fnExactPutFencesRow.holds Try.pinned (OpenSpec.ofChange fnExactPutFencesWrong)

/-- 'laws.FnExactParseCond': WHATEVER THE INPUT: true; the input reads as it did. -/
def fnExactParseCondSpec : ChangeSpec := { name := "fnExactParseCond", fn := fun _ => fun
  | [d] => { results := [.lit (.bool true)], args := [d] }
  | _ => none }
def fnExactParseCondRow : OpenClaim := { program := "ytbndkefoinmmgaa", sum := "da288d4bf8e1f99836660dd910a96cd3f2ce2ea936e57df53998eb8987619223", func := "loop.example/weakmemory/laws.FnExactParseCond", spec := "fnExactParseCond", inPlace := ["internal/bytealg.IndexByteString"], recurses := true, apart := false }
def FnExactParseCondSaid : Prop := fnExactParseCondRow.holds Try.pinned (OpenSpec.ofChange fnExactParseCondSpec)

/-- ITS FALSE NEIGHBOUR: 'it returns false'. Refute it at one input. -/
def fnExactParseCondWrong : ChangeSpec := { name := "fnExactParseCond", fn := fun _ => fun
  | [d] => { results := [.lit (.bool false)], args := [d] }
  | _ => none }
def FnExactParseCondWrongFalsely : Prop := fnExactParseCondRow.holds Try.pinned (OpenSpec.ofChange fnExactParseCondWrong)

/-- 'laws.FnExactOutcomeCond': WHATEVER THE INPUT: true; the input reads as it did. -/
def fnExactOutcomeCondSpec : ChangeSpec := { name := "fnExactOutcomeCond", fn := fun _ => fun
  | [d1, d2] => { results := [.lit (.bool true)], args := [d1, d2] }
  | _ => none }
def fnExactOutcomeCondRow : OpenClaim := { program := "ytbndkefoinmmgaa", sum := "da288d4bf8e1f99836660dd910a96cd3f2ce2ea936e57df53998eb8987619223", func := "loop.example/weakmemory/laws.FnExactOutcomeCond", spec := "fnExactOutcomeCond", unfollowed := true, recurses := true, apart := false }
def FnExactOutcomeCondSaid : Prop := fnExactOutcomeCondRow.holds Try.pinned (OpenSpec.ofChange fnExactOutcomeCondSpec)

/-- ITS FALSE NEIGHBOUR: 'it returns false'. Refute it at one input. -/
def fnExactOutcomeCondWrong : ChangeSpec := { name := "fnExactOutcomeCond", fn := fun _ => fun
  | [d1, d2] => { results := [.lit (.bool false)], args := [d1, d2] }
  | _ => none }
def FnExactOutcomeCondWrongFalsely : Prop := fnExactOutcomeCondRow.holds Try.pinned (OpenSpec.ofChange fnExactOutcomeCondWrong)

/-- 'laws.FnGapsOf': WHATEVER THE INPUT: true; the input reads as it did. -/
def fnGapsOfSpec : ChangeSpec := { name := "fnGapsOf", fn := fun _ => fun
  | [d] => { results := [.lit (.bool true)], args := [d] }
  | _ => none }
def fnGapsOfRow : OpenClaim := { program := "ytbndkefoinmmgaa", sum := "da288d4bf8e1f99836660dd910a96cd3f2ce2ea936e57df53998eb8987619223", func := "loop.example/weakmemory/laws.FnGapsOf", spec := "fnGapsOf", inPlace := ["slices.overlaps[loop.example/weakmemory/impl.Instr]"], unfollowed := true, recurses := true, apart := false }
def FnGapsOfSaid : Prop := fnGapsOfRow.holds Try.pinned (OpenSpec.ofChange fnGapsOfSpec)

/-- ITS FALSE NEIGHBOUR: 'it returns false'. Refute it at one input. -/
def fnGapsOfWrong : ChangeSpec := { name := "fnGapsOf", fn := fun _ => fun
  | [d] => { results := [.lit (.bool false)], args := [d] }
  | _ => none }
def FnGapsOfWrongFalsely : Prop := fnGapsOfRow.holds Try.pinned (OpenSpec.ofChange fnGapsOfWrong)

/-- 'laws.FnPutFences': WHATEVER THE INPUT: true; the input reads as it did. -/
def fnPutFencesSpec : ChangeSpec := { name := "fnPutFences", fn := fun _ => fun
  | [d] => { results := [.lit (.bool true)], args := [d] }
  | _ => none }
def fnPutFencesRow : OpenClaim := { program := "ytbndkefoinmmgaa", sum := "da288d4bf8e1f99836660dd910a96cd3f2ce2ea936e57df53998eb8987619223", func := "loop.example/weakmemory/laws.FnPutFences", spec := "fnPutFences", inPlace := ["slices.overlaps[loop.example/weakmemory/impl.Instr]"], unfollowed := true, recurses := true, apart := false }
def FnPutFencesSaid : Prop := fnPutFencesRow.holds Try.pinned (OpenSpec.ofChange fnPutFencesSpec)

/-- ITS FALSE NEIGHBOUR: 'it returns false'. Refute it at one input. -/
def fnPutFencesWrong : ChangeSpec := { name := "fnPutFences", fn := fun _ => fun
  | [d] => { results := [.lit (.bool false)], args := [d] }
  | _ => none }
def FnPutFencesWrongFalsely : Prop := fnPutFencesRow.holds Try.pinned (OpenSpec.ofChange fnPutFencesWrong)

/- THE SECOND FORM. 'bulk': how many values and letters a reading holds, each counted each time it is reached (what is shared counts as often as it is met; a slice's spare places count too). A statement '..UptoSaid' is the law's where the arguments, and the package variables that the reading takes, are together of bulk at most 1048576: NARROWER than '..Said'. Prove '..Said' where nothing that the law and all that it calls make is longer than what came in: it says more and counts as full. Else prove '..UptoSaid'. A law counts once. -/
mutual
def uptoBulk {H : Type} : DataW H → Nat
  | .lit (.string bytes) => bytes.length + 1
  | .lit _ => 1
  | .nil => 1
  | .ptr d => uptoBulk d + 1
  | .slice elems spare => uptoBulkAll elems + uptoBulkAll spare + 1
  | .agg parts => uptoBulkAll parts + 1
  | .iface _ d => uptoBulk d + 1
  | .map entries => uptoBulkEntries entries + 1
  | .held _ => 1
def uptoBulkAll {H : Type} : List (DataW H) → Nat
  | [] => 0
  | d :: r => uptoBulk d + uptoBulkAll r
def uptoBulkEntries {H : Type} : List (Lit × DataW H) → Nat
  | [] => 0
  | x :: r => uptoBulkEntry x + uptoBulkEntries r
def uptoBulkEntry {H : Type} : Lit × DataW H → Nat
  | (.string bytes, d) => bytes.length + uptoBulk d + 1
  | (_, d) => uptoBulk d + 1
 end
def uptoSmall : (H : Type) → List (DataW H) → Bool := fun _ ds => decide (uptoBulkAll ds ≤ 1048576)
def OpenSpec.upto (s : _root_.Go.ChangeSpec) : _root_.Go.OpenSpec := { _root_.Go.OpenSpec.ofChange s with cond := some uptoSmall }

/-- 'laws.FnExactDelayRel', WHERE WHAT IT READS IS OF BULK AT MOST 1048576: true; the input reads as it did. -/
def fnExactDelayRelUptoRow : OpenClaim := { program := "ytbndkefoinmmgaa", sum := "da288d4bf8e1f99836660dd910a96cd3f2ce2ea936e57df53998eb8987619223", func := "loop.example/weakmemory/laws.FnExactDelayRel", spec := "fnExactDelayRel", unfollowed := true, recurses := true, apart := false, narrowed := true }
def FnExactDelayRelUptoSaid : Prop := fnExactDelayRelUptoRow.holds Try.pinned (OpenSpec.upto fnExactDelayRelSpec)

/-- 'laws.FnExactDelayGaps', WHERE WHAT IT READS IS OF BULK AT MOST 1048576: true; the input reads as it did. -/
def fnExactDelayGapsUptoRow : OpenClaim := { program := "ytbndkefoinmmgaa", sum := "da288d4bf8e1f99836660dd910a96cd3f2ce2ea936e57df53998eb8987619223", func := "loop.example/weakmemory/laws.FnExactDelayGaps", spec := "fnExactDelayGaps", unfollowed := true, recurses := true, apart := false, narrowed := true }
def FnExactDelayGapsUptoSaid : Prop := fnExactDelayGapsUptoRow.holds Try.pinned (OpenSpec.upto fnExactDelayGapsSpec)

/-- 'laws.FnExactPutFences', WHERE WHAT IT READS IS OF BULK AT MOST 1048576: true; the input reads as it did. -/
def fnExactPutFencesUptoRow : OpenClaim := { program := "ytbndkefoinmmgaa", sum := "da288d4bf8e1f99836660dd910a96cd3f2ce2ea936e57df53998eb8987619223", func := "loop.example/weakmemory/laws.FnExactPutFences", spec := "fnExactPutFences", inPlace := ["slices.overlaps[loop.example/weakmemory/impl.Instr]"], unfollowed := true, recurses := true, apart := false, narrowed := true }
def FnExactPutFencesUptoSaid : Prop := fnExactPutFencesUptoRow.holds Try.pinned (OpenSpec.upto fnExactPutFencesSpec)

/-- 'laws.FnExactParseCond', WHERE WHAT IT READS IS OF BULK AT MOST 1048576: true; the input reads as it did. -/
def fnExactParseCondUptoRow : OpenClaim := { program := "ytbndkefoinmmgaa", sum := "da288d4bf8e1f99836660dd910a96cd3f2ce2ea936e57df53998eb8987619223", func := "loop.example/weakmemory/laws.FnExactParseCond", spec := "fnExactParseCond", inPlace := ["internal/bytealg.IndexByteString"], recurses := true, apart := false, narrowed := true }
def FnExactParseCondUptoSaid : Prop := fnExactParseCondUptoRow.holds Try.pinned (OpenSpec.upto fnExactParseCondSpec)

/-- 'laws.FnExactOutcomeCond', WHERE WHAT IT READS IS OF BULK AT MOST 1048576: true; the input reads as it did. -/
def fnExactOutcomeCondUptoRow : OpenClaim := { program := "ytbndkefoinmmgaa", sum := "da288d4bf8e1f99836660dd910a96cd3f2ce2ea936e57df53998eb8987619223", func := "loop.example/weakmemory/laws.FnExactOutcomeCond", spec := "fnExactOutcomeCond", unfollowed := true, recurses := true, apart := false, narrowed := true }
def FnExactOutcomeCondUptoSaid : Prop := fnExactOutcomeCondUptoRow.holds Try.pinned (OpenSpec.upto fnExactOutcomeCondSpec)

/-- 'laws.FnGapsOf', WHERE WHAT IT READS IS OF BULK AT MOST 1048576: true; the input reads as it did. -/
def fnGapsOfUptoRow : OpenClaim := { program := "ytbndkefoinmmgaa", sum := "da288d4bf8e1f99836660dd910a96cd3f2ce2ea936e57df53998eb8987619223", func := "loop.example/weakmemory/laws.FnGapsOf", spec := "fnGapsOf", inPlace := ["slices.overlaps[loop.example/weakmemory/impl.Instr]"], unfollowed := true, recurses := true, apart := false, narrowed := true }
def FnGapsOfUptoSaid : Prop := fnGapsOfUptoRow.holds Try.pinned (OpenSpec.upto fnGapsOfSpec)

/-- 'laws.FnPutFences', WHERE WHAT IT READS IS OF BULK AT MOST 1048576: true; the input reads as it did. -/
def fnPutFencesUptoRow : OpenClaim := { program := "ytbndkefoinmmgaa", sum := "da288d4bf8e1f99836660dd910a96cd3f2ce2ea936e57df53998eb8987619223", func := "loop.example/weakmemory/laws.FnPutFences", spec := "fnPutFences", inPlace := ["slices.overlaps[loop.example/weakmemory/impl.Instr]"], unfollowed := true, recurses := true, apart := false, narrowed := true }
def FnPutFencesUptoSaid : Prop := fnPutFencesUptoRow.holds Try.pinned (OpenSpec.upto fnPutFencesSpec)

end Rows
end Go.Proofs.Ytbndkefoinmmgaa
