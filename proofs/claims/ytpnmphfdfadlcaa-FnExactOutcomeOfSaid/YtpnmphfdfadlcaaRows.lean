/-
  No cell of these rows narrows 'for every input' (looked for: loops, veiled, ifaces, maps, wideKeys, modest, calm, conditions, laid).
  DERIVED. THE GIVEN ROWS OF THIS SEAT. 10 by the template 'for every input the law returns true; each argument reads behind the call as it read before'; 0 by the template 'total and deterministic' (their statements: YtpnmphfdfadlcaaTotals.lean).
  GIVEN WITH THE SEED: the statements are not yours to turn. If you find one false, say at which input.
  Laid BY PROGRAM, IN A SANDBOX (cutbox-rows.mjs): the forced cells as the released guide's own fill.sh prints them over the translation ae6b4b20a5cce410… (all of the seat's roots in one cut). By AI agents, Wed Nov 11 2026. No macro, syntax, notation, axiom, sorry.
-/
import Derived.Test.YtpnmphfdfadlcaaChecked
import GoSem.Claim
import GoSem.ClaimJoined
import GoSem.ClaimMapViews
import Derived.JoinedTies
import Derived.KernelRfl
namespace Go.Proofs.Ytpnmphfdfadlcaa
/- THE CELL 'sum', in the pinned program and in every row, IS THE sha256 OF THE DUMP (.gsa) THAT YtpnmphfdfadlcaaProg.lean LOADS. Nothing in Lean hashes anything: it is a label: what it is worth is what the hold of that sum in a sandbox is worth. -/
noncomputable def Try.pinned : Pinned := { name := "ytpnmphfdfadlcaa", sum := "ae6b4b20a5cce4107415ee07bfb4639d7a0a0d03e439828b885995cab71fb875", checked := Try.checked }
namespace Rows
def none {H : Type} : Left H := { results := [], args := [] }

/-- 'laws.FnCondText': WHATEVER THE INPUT: true; the input reads as it did. -/
def fnCondTextSpec : ChangeSpec := { name := "fnCondText", fn := fun _ => fun
  | [d1, d2] => { results := [.lit (.bool true)], args := [d1, d2] }
  | _ => none }
def fnCondTextRow : OpenClaim := { program := "ytpnmphfdfadlcaa", sum := "ae6b4b20a5cce4107415ee07bfb4639d7a0a0d03e439828b885995cab71fb875", func := "loop.example/weakmemory/laws.FnCondText", spec := "fnCondText", inPlace := ["internal/bytealg.IndexByteString"], unfollowed := true, recurses := true, apart := false }
def FnCondTextSaid : Prop := fnCondTextRow.holds Try.pinned (OpenSpec.ofChange fnCondTextSpec)

/-- ITS FALSE NEIGHBOUR: 'it returns false'. Refute it at one input. -/
def fnCondTextWrong : ChangeSpec := { name := "fnCondText", fn := fun _ => fun
  | [d1, d2] => { results := [.lit (.bool false)], args := [d1, d2] }
  | _ => none }
def FnCondTextWrongFalsely : Prop := fnCondTextRow.holds Try.pinned (OpenSpec.ofChange fnCondTextWrong)

/-- 'laws.FnConflictRel': WHATEVER THE INPUT: true; the input reads as it did. -/
def fnConflictRelSpec : ChangeSpec := { name := "fnConflictRel", fn := fun _ => fun
  | [d] => { results := [.lit (.bool true)], args := [d] }
  | _ => none }
def fnConflictRelRow : OpenClaim := { program := "ytpnmphfdfadlcaa", sum := "ae6b4b20a5cce4107415ee07bfb4639d7a0a0d03e439828b885995cab71fb875", func := "loop.example/weakmemory/laws.FnConflictRel", spec := "fnConflictRel", unfollowed := true, recurses := true, apart := false }
def FnConflictRelSaid : Prop := fnConflictRelRow.holds Try.pinned (OpenSpec.ofChange fnConflictRelSpec)

/-- ITS FALSE NEIGHBOUR: 'it returns false'. Refute it at one input. -/
def fnConflictRelWrong : ChangeSpec := { name := "fnConflictRel", fn := fun _ => fun
  | [d] => { results := [.lit (.bool false)], args := [d] }
  | _ => none }
def FnConflictRelWrongFalsely : Prop := fnConflictRelRow.holds Try.pinned (OpenSpec.ofChange fnConflictRelWrong)

/-- 'laws.FnExactPutFences': WHATEVER THE INPUT: true; the input reads as it did. -/
def fnExactPutFencesSpec : ChangeSpec := { name := "fnExactPutFences", fn := fun _ => fun
  | [d1, d2] => { results := [.lit (.bool true)], args := [d1, d2] }
  | _ => none }
def fnExactPutFencesRow : OpenClaim := { program := "ytpnmphfdfadlcaa", sum := "ae6b4b20a5cce4107415ee07bfb4639d7a0a0d03e439828b885995cab71fb875", func := "loop.example/weakmemory/laws.FnExactPutFences", spec := "fnExactPutFences", inPlace := ["slices.overlaps[loop.example/weakmemory/impl.Instr]"], unfollowed := true, recurses := true, apart := false }
def FnExactPutFencesSaid : Prop := fnExactPutFencesRow.holds Try.pinned (OpenSpec.ofChange fnExactPutFencesSpec)

/-- ITS FALSE NEIGHBOUR: 'it returns false'. Refute it at one input. -/
def fnExactPutFencesWrong : ChangeSpec := { name := "fnExactPutFences", fn := fun _ => fun
  | [d1, d2] => { results := [.lit (.bool false)], args := [d1, d2] }
  | _ => none }
def FnExactPutFencesWrongFalsely : Prop := fnExactPutFencesRow.holds Try.pinned (OpenSpec.ofChange fnExactPutFencesWrong)

/-- 'laws.FnExactOutcomeCond': WHATEVER THE INPUT: true; the input reads as it did. -/
def fnExactOutcomeCondSpec : ChangeSpec := { name := "fnExactOutcomeCond", fn := fun _ => fun
  | [d1, d2] => { results := [.lit (.bool true)], args := [d1, d2] }
  | _ => none }
def fnExactOutcomeCondRow : OpenClaim := { program := "ytpnmphfdfadlcaa", sum := "ae6b4b20a5cce4107415ee07bfb4639d7a0a0d03e439828b885995cab71fb875", func := "loop.example/weakmemory/laws.FnExactOutcomeCond", spec := "fnExactOutcomeCond", unfollowed := true, recurses := true, apart := false }
def FnExactOutcomeCondSaid : Prop := fnExactOutcomeCondRow.holds Try.pinned (OpenSpec.ofChange fnExactOutcomeCondSpec)

/-- ITS FALSE NEIGHBOUR: 'it returns false'. Refute it at one input. -/
def fnExactOutcomeCondWrong : ChangeSpec := { name := "fnExactOutcomeCond", fn := fun _ => fun
  | [d1, d2] => { results := [.lit (.bool false)], args := [d1, d2] }
  | _ => none }
def FnExactOutcomeCondWrongFalsely : Prop := fnExactOutcomeCondRow.holds Try.pinned (OpenSpec.ofChange fnExactOutcomeCondWrong)

/-- 'laws.FnPutFences': WHATEVER THE INPUT: true; the input reads as it did. -/
def fnPutFencesSpec : ChangeSpec := { name := "fnPutFences", fn := fun _ => fun
  | [d] => { results := [.lit (.bool true)], args := [d] }
  | _ => none }
def fnPutFencesRow : OpenClaim := { program := "ytpnmphfdfadlcaa", sum := "ae6b4b20a5cce4107415ee07bfb4639d7a0a0d03e439828b885995cab71fb875", func := "loop.example/weakmemory/laws.FnPutFences", spec := "fnPutFences", inPlace := ["slices.overlaps[loop.example/weakmemory/impl.Instr]"], unfollowed := true, recurses := true, apart := false }
def FnPutFencesSaid : Prop := fnPutFencesRow.holds Try.pinned (OpenSpec.ofChange fnPutFencesSpec)

/-- ITS FALSE NEIGHBOUR: 'it returns false'. Refute it at one input. -/
def fnPutFencesWrong : ChangeSpec := { name := "fnPutFences", fn := fun _ => fun
  | [d] => { results := [.lit (.bool false)], args := [d] }
  | _ => none }
def FnPutFencesWrongFalsely : Prop := fnPutFencesRow.holds Try.pinned (OpenSpec.ofChange fnPutFencesWrong)

/-- 'laws.FnGapsOf': WHATEVER THE INPUT: true; the input reads as it did. -/
def fnGapsOfSpec : ChangeSpec := { name := "fnGapsOf", fn := fun _ => fun
  | [d] => { results := [.lit (.bool true)], args := [d] }
  | _ => none }
def fnGapsOfRow : OpenClaim := { program := "ytpnmphfdfadlcaa", sum := "ae6b4b20a5cce4107415ee07bfb4639d7a0a0d03e439828b885995cab71fb875", func := "loop.example/weakmemory/laws.FnGapsOf", spec := "fnGapsOf", inPlace := ["slices.overlaps[loop.example/weakmemory/impl.Instr]"], unfollowed := true, recurses := true, apart := false }
def FnGapsOfSaid : Prop := fnGapsOfRow.holds Try.pinned (OpenSpec.ofChange fnGapsOfSpec)

/-- ITS FALSE NEIGHBOUR: 'it returns false'. Refute it at one input. -/
def fnGapsOfWrong : ChangeSpec := { name := "fnGapsOf", fn := fun _ => fun
  | [d] => { results := [.lit (.bool false)], args := [d] }
  | _ => none }
def FnGapsOfWrongFalsely : Prop := fnGapsOfRow.holds Try.pinned (OpenSpec.ofChange fnGapsOfWrong)

/-- 'laws.FnExactValuesOf': WHATEVER THE INPUT: true; the input reads as it did. -/
def fnExactValuesOfSpec : ChangeSpec := { name := "fnExactValuesOf", fn := fun _ => fun
  | [d1, d2] => { results := [.lit (.bool true)], args := [d1, d2] }
  | _ => none }
def fnExactValuesOfRow : OpenClaim := { program := "ytpnmphfdfadlcaa", sum := "ae6b4b20a5cce4107415ee07bfb4639d7a0a0d03e439828b885995cab71fb875", func := "loop.example/weakmemory/laws.FnExactValuesOf", spec := "fnExactValuesOf", unfollowed := true, recurses := true, apart := false }
def FnExactValuesOfSaid : Prop := fnExactValuesOfRow.holds Try.pinned (OpenSpec.ofChange fnExactValuesOfSpec)

/-- ITS FALSE NEIGHBOUR: 'it returns false'. Refute it at one input. -/
def fnExactValuesOfWrong : ChangeSpec := { name := "fnExactValuesOf", fn := fun _ => fun
  | [d1, d2] => { results := [.lit (.bool false)], args := [d1, d2] }
  | _ => none }
def FnExactValuesOfWrongFalsely : Prop := fnExactValuesOfRow.holds Try.pinned (OpenSpec.ofChange fnExactValuesOfWrong)

/-- 'laws.FnExactOutcomeOf': WHATEVER THE INPUT: true; the input reads as it did. -/
def fnExactOutcomeOfSpec : ChangeSpec := { name := "fnExactOutcomeOf", fn := fun _ => fun
  | [d1, d2] => { results := [.lit (.bool true)], args := [d1, d2] }
  | _ => none }
def fnExactOutcomeOfRow : OpenClaim := { program := "ytpnmphfdfadlcaa", sum := "ae6b4b20a5cce4107415ee07bfb4639d7a0a0d03e439828b885995cab71fb875", func := "loop.example/weakmemory/laws.FnExactOutcomeOf", spec := "fnExactOutcomeOf", unfollowed := true, recurses := true, apart := false }
def FnExactOutcomeOfSaid : Prop := fnExactOutcomeOfRow.holds Try.pinned (OpenSpec.ofChange fnExactOutcomeOfSpec)

/-- ITS FALSE NEIGHBOUR: 'it returns false'. Refute it at one input. -/
def fnExactOutcomeOfWrong : ChangeSpec := { name := "fnExactOutcomeOf", fn := fun _ => fun
  | [d1, d2] => { results := [.lit (.bool false)], args := [d1, d2] }
  | _ => none }
def FnExactOutcomeOfWrongFalsely : Prop := fnExactOutcomeOfRow.holds Try.pinned (OpenSpec.ofChange fnExactOutcomeOfWrong)

/-- 'laws.FnValuesOf': WHATEVER THE INPUT: true; the input reads as it did. -/
def fnValuesOfSpec : ChangeSpec := { name := "fnValuesOf", fn := fun _ => fun
  | [d] => { results := [.lit (.bool true)], args := [d] }
  | _ => none }
def fnValuesOfRow : OpenClaim := { program := "ytpnmphfdfadlcaa", sum := "ae6b4b20a5cce4107415ee07bfb4639d7a0a0d03e439828b885995cab71fb875", func := "loop.example/weakmemory/laws.FnValuesOf", spec := "fnValuesOf", unfollowed := true, recurses := true, apart := false }
def FnValuesOfSaid : Prop := fnValuesOfRow.holds Try.pinned (OpenSpec.ofChange fnValuesOfSpec)

/-- ITS FALSE NEIGHBOUR: 'it returns false'. Refute it at one input. -/
def fnValuesOfWrong : ChangeSpec := { name := "fnValuesOf", fn := fun _ => fun
  | [d] => { results := [.lit (.bool false)], args := [d] }
  | _ => none }
def FnValuesOfWrongFalsely : Prop := fnValuesOfRow.holds Try.pinned (OpenSpec.ofChange fnValuesOfWrong)

/-- 'laws.FnOutcomeOf': WHATEVER THE INPUT: true; the input reads as it did. -/
def fnOutcomeOfSpec : ChangeSpec := { name := "fnOutcomeOf", fn := fun _ => fun
  | [d] => { results := [.lit (.bool true)], args := [d] }
  | _ => none }
def fnOutcomeOfRow : OpenClaim := { program := "ytpnmphfdfadlcaa", sum := "ae6b4b20a5cce4107415ee07bfb4639d7a0a0d03e439828b885995cab71fb875", func := "loop.example/weakmemory/laws.FnOutcomeOf", spec := "fnOutcomeOf", unfollowed := true, recurses := true, apart := false }
def FnOutcomeOfSaid : Prop := fnOutcomeOfRow.holds Try.pinned (OpenSpec.ofChange fnOutcomeOfSpec)

/-- ITS FALSE NEIGHBOUR: 'it returns false'. Refute it at one input. -/
def fnOutcomeOfWrong : ChangeSpec := { name := "fnOutcomeOf", fn := fun _ => fun
  | [d] => { results := [.lit (.bool false)], args := [d] }
  | _ => none }
def FnOutcomeOfWrongFalsely : Prop := fnOutcomeOfRow.holds Try.pinned (OpenSpec.ofChange fnOutcomeOfWrong)

/- THE SECOND FORM. 'bulk': how many values and letters a reading holds, each counted each time it is reached (what is shared counts as often as it is met; a slice's spare places count too). A statement '..UptoSaid' is the law's where the arguments, and the package variables that the reading takes, are together of bulk at most 1048576: NARROWER than '..Said'. Prove '..Said' where nothing that the law and all that it calls make is longer than what came in: it says more and counts as full. Else prove '..UptoSaid'. A law counts once. -/
mutual
def uptoBulk {H : Type} : DataW H → Nat
  | .lit (.string bytes) => bytes.length + 1
  | .lit _ => 1
  | .nil => 1
  | .ptr d => uptoBulk d + 1
  | .slice elems spare => uptoBulkAll elems + uptoBulkAll spare + 1
  | .agg parts => uptoBulkAll parts + 1
  | .iface _ d => uptoBulk d + 1
  | .map entries => uptoBulkEntries entries + 1
  | .held _ => 1
def uptoBulkAll {H : Type} : List (DataW H) → Nat
  | [] => 0
  | d :: r => uptoBulk d + uptoBulkAll r
def uptoBulkEntries {H : Type} : List (Lit × DataW H) → Nat
  | [] => 0
  | x :: r => uptoBulkEntry x + uptoBulkEntries r
def uptoBulkEntry {H : Type} : Lit × DataW H → Nat
  | (.string bytes, d) => bytes.length + uptoBulk d + 1
  | (_, d) => uptoBulk d + 1
 end
def uptoSmall : (H : Type) → List (DataW H) → Bool := fun _ ds => decide (uptoBulkAll ds ≤ 1048576)
def OpenSpec.upto (s : _root_.Go.ChangeSpec) : _root_.Go.OpenSpec := { _root_.Go.OpenSpec.ofChange s with cond := some uptoSmall }

/-- 'laws.FnCondText', WHERE WHAT IT READS IS OF BULK AT MOST 1048576: true; the input reads as it did. -/
def fnCondTextUptoRow : OpenClaim := { program := "ytpnmphfdfadlcaa", sum := "ae6b4b20a5cce4107415ee07bfb4639d7a0a0d03e439828b885995cab71fb875", func := "loop.example/weakmemory/laws.FnCondText", spec := "fnCondText", inPlace := ["internal/bytealg.IndexByteString"], unfollowed := true, recurses := true, apart := false, narrowed := true }
def FnCondTextUptoSaid : Prop := fnCondTextUptoRow.holds Try.pinned (OpenSpec.upto fnCondTextSpec)

/-- 'laws.FnConflictRel', WHERE WHAT IT READS IS OF BULK AT MOST 1048576: true; the input reads as it did. -/
def fnConflictRelUptoRow : OpenClaim := { program := "ytpnmphfdfadlcaa", sum := "ae6b4b20a5cce4107415ee07bfb4639d7a0a0d03e439828b885995cab71fb875", func := "loop.example/weakmemory/laws.FnConflictRel", spec := "fnConflictRel", unfollowed := true, recurses := true, apart := false, narrowed := true }
def FnConflictRelUptoSaid : Prop := fnConflictRelUptoRow.holds Try.pinned (OpenSpec.upto fnConflictRelSpec)

/-- 'laws.FnExactPutFences', WHERE WHAT IT READS IS OF BULK AT MOST 1048576: true; the input reads as it did. -/
def fnExactPutFencesUptoRow : OpenClaim := { program := "ytpnmphfdfadlcaa", sum := "ae6b4b20a5cce4107415ee07bfb4639d7a0a0d03e439828b885995cab71fb875", func := "loop.example/weakmemory/laws.FnExactPutFences", spec := "fnExactPutFences", inPlace := ["slices.overlaps[loop.example/weakmemory/impl.Instr]"], unfollowed := true, recurses := true, apart := false, narrowed := true }
def FnExactPutFencesUptoSaid : Prop := fnExactPutFencesUptoRow.holds Try.pinned (OpenSpec.upto fnExactPutFencesSpec)

/-- 'laws.FnExactOutcomeCond', WHERE WHAT IT READS IS OF BULK AT MOST 1048576: true; the input reads as it did. -/
def fnExactOutcomeCondUptoRow : OpenClaim := { program := "ytpnmphfdfadlcaa", sum := "ae6b4b20a5cce4107415ee07bfb4639d7a0a0d03e439828b885995cab71fb875", func := "loop.example/weakmemory/laws.FnExactOutcomeCond", spec := "fnExactOutcomeCond", unfollowed := true, recurses := true, apart := false, narrowed := true }
def FnExactOutcomeCondUptoSaid : Prop := fnExactOutcomeCondUptoRow.holds Try.pinned (OpenSpec.upto fnExactOutcomeCondSpec)

/-- 'laws.FnPutFences', WHERE WHAT IT READS IS OF BULK AT MOST 1048576: true; the input reads as it did. -/
def fnPutFencesUptoRow : OpenClaim := { program := "ytpnmphfdfadlcaa", sum := "ae6b4b20a5cce4107415ee07bfb4639d7a0a0d03e439828b885995cab71fb875", func := "loop.example/weakmemory/laws.FnPutFences", spec := "fnPutFences", inPlace := ["slices.overlaps[loop.example/weakmemory/impl.Instr]"], unfollowed := true, recurses := true, apart := false, narrowed := true }
def FnPutFencesUptoSaid : Prop := fnPutFencesUptoRow.holds Try.pinned (OpenSpec.upto fnPutFencesSpec)

/-- 'laws.FnGapsOf', WHERE WHAT IT READS IS OF BULK AT MOST 1048576: true; the input reads as it did. -/
def fnGapsOfUptoRow : OpenClaim := { program := "ytpnmphfdfadlcaa", sum := "ae6b4b20a5cce4107415ee07bfb4639d7a0a0d03e439828b885995cab71fb875", func := "loop.example/weakmemory/laws.FnGapsOf", spec := "fnGapsOf", inPlace := ["slices.overlaps[loop.example/weakmemory/impl.Instr]"], unfollowed := true, recurses := true, apart := false, narrowed := true }
def FnGapsOfUptoSaid : Prop := fnGapsOfUptoRow.holds Try.pinned (OpenSpec.upto fnGapsOfSpec)

/-- 'laws.FnExactValuesOf', WHERE WHAT IT READS IS OF BULK AT MOST 1048576: true; the input reads as it did. -/
def fnExactValuesOfUptoRow : OpenClaim := { program := "ytpnmphfdfadlcaa", sum := "ae6b4b20a5cce4107415ee07bfb4639d7a0a0d03e439828b885995cab71fb875", func := "loop.example/weakmemory/laws.FnExactValuesOf", spec := "fnExactValuesOf", unfollowed := true, recurses := true, apart := false, narrowed := true }
def FnExactValuesOfUptoSaid : Prop := fnExactValuesOfUptoRow.holds Try.pinned (OpenSpec.upto fnExactValuesOfSpec)

/-- 'laws.FnExactOutcomeOf', WHERE WHAT IT READS IS OF BULK AT MOST 1048576: true; the input reads as it did. -/
def fnExactOutcomeOfUptoRow : OpenClaim := { program := "ytpnmphfdfadlcaa", sum := "ae6b4b20a5cce4107415ee07bfb4639d7a0a0d03e439828b885995cab71fb875", func := "loop.example/weakmemory/laws.FnExactOutcomeOf", spec := "fnExactOutcomeOf", unfollowed := true, recurses := true, apart := false, narrowed := true }
def FnExactOutcomeOfUptoSaid : Prop := fnExactOutcomeOfUptoRow.holds Try.pinned (OpenSpec.upto fnExactOutcomeOfSpec)

/-- 'laws.FnValuesOf', WHERE WHAT IT READS IS OF BULK AT MOST 1048576: true; the input reads as it did. -/
def fnValuesOfUptoRow : OpenClaim := { program := "ytpnmphfdfadlcaa", sum := "ae6b4b20a5cce4107415ee07bfb4639d7a0a0d03e439828b885995cab71fb875", func := "loop.example/weakmemory/laws.FnValuesOf", spec := "fnValuesOf", unfollowed := true, recurses := true, apart := false, narrowed := true }
def FnValuesOfUptoSaid : Prop := fnValuesOfUptoRow.holds Try.pinned (OpenSpec.upto fnValuesOfSpec)

/-- 'laws.FnOutcomeOf', WHERE WHAT IT READS IS OF BULK AT MOST 1048576: true; the input reads as it did. -/
def fnOutcomeOfUptoRow : OpenClaim := { program := "ytpnmphfdfadlcaa", sum := "ae6b4b20a5cce4107415ee07bfb4639d7a0a0d03e439828b885995cab71fb875", func := "loop.example/weakmemory/laws.FnOutcomeOf", spec := "fnOutcomeOf", unfollowed := true, recurses := true, apart := false, narrowed := true }
def FnOutcomeOfUptoSaid : Prop := fnOutcomeOfUptoRow.holds Try.pinned (OpenSpec.upto fnOutcomeOfSpec)

end Rows
end Go.Proofs.Ytpnmphfdfadlcaa
