/-
  NARROWER THAN 'FOR EVERY INPUT', by the rows' own cells (each row's printed sentence says how): FnExactCondSame: loops · FnExactCondValid: loops · FnExactFormatCond: loops · FnExactCondHolds: loops.
  DERIVED. THE GIVEN ROWS OF THIS SEAT. 12 by the template 'for every input the law returns true; each argument reads behind the call as it read before'; 0 by the template 'total and deterministic' (their statements: YtlnmlmpmpnjfmaaTotals.lean).
  GIVEN WITH THE SEED: the statements are not yours to turn. If you find one false, say at which input.
  Laid BY PROGRAM, IN A SANDBOX (cutbox-rows.mjs): the forced cells as the released guide's own fill.sh prints them over the translation fb218ae437203e78… (all of the seat's roots in one cut). By AI agents, Wed Nov 11 2026. No macro, syntax, notation, axiom, sorry.
-/
import Derived.Test.YtlnmlmpmpnjfmaaChecked
import GoSem.Claim
import GoSem.ClaimJoined
import GoSem.ClaimMapViews
import Derived.JoinedTies
import Derived.KernelRfl
namespace Go.Proofs.Ytlnmlmpmpnjfmaa
/- THE CELL 'sum', in the pinned program and in every row, IS THE sha256 OF THE DUMP (.gsa) THAT YtlnmlmpmpnjfmaaProg.lean LOADS. Nothing in Lean hashes anything: it is a label: what it is worth is what the hold of that sum in a sandbox is worth. -/
noncomputable def Try.pinned : Pinned := { name := "ytlnmlmpmpnjfmaa", sum := "fb218ae437203e7846390512f103d05f030bc55b4f833f6dd518c7cb90b968f0", checked := Try.checked }
namespace Rows
def none {H : Type} : Left H := { results := [], args := [] }

/-- 'laws.FnExactRaceFree': WHATEVER THE INPUT: true; the input reads as it did. -/
def fnExactRaceFreeSpec : ChangeSpec := { name := "fnExactRaceFree", fn := fun _ => fun
  | [d] => { results := [.lit (.bool true)], args := [d] }
  | _ => none }
def fnExactRaceFreeRow : OpenClaim := { program := "ytlnmlmpmpnjfmaa", sum := "fb218ae437203e7846390512f103d05f030bc55b4f833f6dd518c7cb90b968f0", func := "loop.example/weakmemory/laws.FnExactRaceFree", spec := "fnExactRaceFree", unfollowed := true, recurses := true, apart := false }
def FnExactRaceFreeSaid : Prop := fnExactRaceFreeRow.holds Try.pinned (OpenSpec.ofChange fnExactRaceFreeSpec)

/-- ITS FALSE NEIGHBOUR: 'it returns false'. Refute it at one input. -/
def fnExactRaceFreeWrong : ChangeSpec := { name := "fnExactRaceFree", fn := fun _ => fun
  | [d] => { results := [.lit (.bool false)], args := [d] }
  | _ => none }
def FnExactRaceFreeWrongFalsely : Prop := fnExactRaceFreeRow.holds Try.pinned (OpenSpec.ofChange fnExactRaceFreeWrong)

/-- 'laws.FnExactConflictRel': WHATEVER THE INPUT: true; the input reads as it did. -/
def fnExactConflictRelSpec : ChangeSpec := { name := "fnExactConflictRel", fn := fun _ => fun
  | [d] => { results := [.lit (.bool true)], args := [d] }
  | _ => none }
def fnExactConflictRelRow : OpenClaim := { program := "ytlnmlmpmpnjfmaa", sum := "fb218ae437203e7846390512f103d05f030bc55b4f833f6dd518c7cb90b968f0", func := "loop.example/weakmemory/laws.FnExactConflictRel", spec := "fnExactConflictRel", unfollowed := true, recurses := true, apart := false }
def FnExactConflictRelSaid : Prop := fnExactConflictRelRow.holds Try.pinned (OpenSpec.ofChange fnExactConflictRelSpec)

/-- ITS FALSE NEIGHBOUR: 'it returns false'. Refute it at one input. -/
def fnExactConflictRelWrong : ChangeSpec := { name := "fnExactConflictRel", fn := fun _ => fun
  | [d] => { results := [.lit (.bool false)], args := [d] }
  | _ => none }
def FnExactConflictRelWrongFalsely : Prop := fnExactConflictRelRow.holds Try.pinned (OpenSpec.ofChange fnExactConflictRelWrong)

/-- 'laws.FnExactRacesOf': WHATEVER THE INPUT: true; the input reads as it did. -/
def fnExactRacesOfSpec : ChangeSpec := { name := "fnExactRacesOf", fn := fun _ => fun
  | [d] => { results := [.lit (.bool true)], args := [d] }
  | _ => none }
def fnExactRacesOfRow : OpenClaim := { program := "ytlnmlmpmpnjfmaa", sum := "fb218ae437203e7846390512f103d05f030bc55b4f833f6dd518c7cb90b968f0", func := "loop.example/weakmemory/laws.FnExactRacesOf", spec := "fnExactRacesOf", unfollowed := true, recurses := true, apart := false }
def FnExactRacesOfSaid : Prop := fnExactRacesOfRow.holds Try.pinned (OpenSpec.ofChange fnExactRacesOfSpec)

/-- ITS FALSE NEIGHBOUR: 'it returns false'. Refute it at one input. -/
def fnExactRacesOfWrong : ChangeSpec := { name := "fnExactRacesOf", fn := fun _ => fun
  | [d] => { results := [.lit (.bool false)], args := [d] }
  | _ => none }
def FnExactRacesOfWrongFalsely : Prop := fnExactRacesOfRow.holds Try.pinned (OpenSpec.ofChange fnExactRacesOfWrong)

/-- 'laws.FnExactDelayRel': WHATEVER THE INPUT: true; the input reads as it did. -/
def fnExactDelayRelSpec : ChangeSpec := { name := "fnExactDelayRel", fn := fun _ => fun
  | [d] => { results := [.lit (.bool true)], args := [d] }
  | _ => none }
def fnExactDelayRelRow : OpenClaim := { program := "ytlnmlmpmpnjfmaa", sum := "fb218ae437203e7846390512f103d05f030bc55b4f833f6dd518c7cb90b968f0", func := "loop.example/weakmemory/laws.FnExactDelayRel", spec := "fnExactDelayRel", unfollowed := true, recurses := true, apart := false }
def FnExactDelayRelSaid : Prop := fnExactDelayRelRow.holds Try.pinned (OpenSpec.ofChange fnExactDelayRelSpec)

/-- ITS FALSE NEIGHBOUR: 'it returns false'. Refute it at one input. -/
def fnExactDelayRelWrong : ChangeSpec := { name := "fnExactDelayRel", fn := fun _ => fun
  | [d] => { results := [.lit (.bool false)], args := [d] }
  | _ => none }
def FnExactDelayRelWrongFalsely : Prop := fnExactDelayRelRow.holds Try.pinned (OpenSpec.ofChange fnExactDelayRelWrong)

/-- 'laws.FnExactDelayGaps': WHATEVER THE INPUT: true; the input reads as it did. -/
def fnExactDelayGapsSpec : ChangeSpec := { name := "fnExactDelayGaps", fn := fun _ => fun
  | [d] => { results := [.lit (.bool true)], args := [d] }
  | _ => none }
def fnExactDelayGapsRow : OpenClaim := { program := "ytlnmlmpmpnjfmaa", sum := "fb218ae437203e7846390512f103d05f030bc55b4f833f6dd518c7cb90b968f0", func := "loop.example/weakmemory/laws.FnExactDelayGaps", spec := "fnExactDelayGaps", unfollowed := true, recurses := true, apart := false }
def FnExactDelayGapsSaid : Prop := fnExactDelayGapsRow.holds Try.pinned (OpenSpec.ofChange fnExactDelayGapsSpec)

/-- ITS FALSE NEIGHBOUR: 'it returns false'. Refute it at one input. -/
def fnExactDelayGapsWrong : ChangeSpec := { name := "fnExactDelayGaps", fn := fun _ => fun
  | [d] => { results := [.lit (.bool false)], args := [d] }
  | _ => none }
def FnExactDelayGapsWrongFalsely : Prop := fnExactDelayGapsRow.holds Try.pinned (OpenSpec.ofChange fnExactDelayGapsWrong)

/-- 'laws.FnExactPutFences': WHATEVER THE INPUT: true; the input reads as it did. -/
def fnExactPutFencesSpec : ChangeSpec := { name := "fnExactPutFences", fn := fun _ => fun
  | [d1, d2] => { results := [.lit (.bool true)], args := [d1, d2] }
  | _ => none }
def fnExactPutFencesRow : OpenClaim := { program := "ytlnmlmpmpnjfmaa", sum := "fb218ae437203e7846390512f103d05f030bc55b4f833f6dd518c7cb90b968f0", func := "loop.example/weakmemory/laws.FnExactPutFences", spec := "fnExactPutFences", inPlace := ["slices.overlaps[loop.example/weakmemory/impl.Instr]"], unfollowed := true, recurses := true, apart := false }
def FnExactPutFencesSaid : Prop := fnExactPutFencesRow.holds Try.pinned (OpenSpec.ofChange fnExactPutFencesSpec)

/-- ITS FALSE NEIGHBOUR: 'it returns false'. Refute it at one input. -/
def fnExactPutFencesWrong : ChangeSpec := { name := "fnExactPutFences", fn := fun _ => fun
  | [d1, d2] => { results := [.lit (.bool false)], args := [d1, d2] }
  | _ => none }
def FnExactPutFencesWrongFalsely : Prop := fnExactPutFencesRow.holds Try.pinned (OpenSpec.ofChange fnExactPutFencesWrong)

/-- 'laws.FnExactCondSame': WHATEVER THE INPUT: true; the input reads as it did. -/
def fnExactCondSameSpec : ChangeSpec := { name := "fnExactCondSame", fn := fun _ => fun
  | [d1, d2] => { results := [.lit (.bool true)], args := [d1, d2] }
  | _ => none }
def fnExactCondSameRow : OpenClaim := { program := "ytlnmlmpmpnjfmaa", sum := "fb218ae437203e7846390512f103d05f030bc55b4f833f6dd518c7cb90b968f0", func := "loop.example/weakmemory/laws.FnExactCondSame", spec := "fnExactCondSame", unfollowed := true, recurses := true, loops := true, apart := false }
def FnExactCondSameSaid : Prop := fnExactCondSameRow.holds Try.pinned (OpenSpec.ofChange fnExactCondSameSpec)

/-- ITS FALSE NEIGHBOUR: 'it returns false'. Refute it at one input. -/
def fnExactCondSameWrong : ChangeSpec := { name := "fnExactCondSame", fn := fun _ => fun
  | [d1, d2] => { results := [.lit (.bool false)], args := [d1, d2] }
  | _ => none }
def FnExactCondSameWrongFalsely : Prop := fnExactCondSameRow.holds Try.pinned (OpenSpec.ofChange fnExactCondSameWrong)

/-- 'laws.FnExactCondValid': WHATEVER THE INPUT: true; the input reads as it did. -/
def fnExactCondValidSpec : ChangeSpec := { name := "fnExactCondValid", fn := fun _ => fun
  | [d] => { results := [.lit (.bool true)], args := [d] }
  | _ => none }
def fnExactCondValidRow : OpenClaim := { program := "ytlnmlmpmpnjfmaa", sum := "fb218ae437203e7846390512f103d05f030bc55b4f833f6dd518c7cb90b968f0", func := "loop.example/weakmemory/laws.FnExactCondValid", spec := "fnExactCondValid", recurses := true, loops := true, apart := false }
def FnExactCondValidSaid : Prop := fnExactCondValidRow.holds Try.pinned (OpenSpec.ofChange fnExactCondValidSpec)

/-- ITS FALSE NEIGHBOUR: 'it returns false'. Refute it at one input. -/
def fnExactCondValidWrong : ChangeSpec := { name := "fnExactCondValid", fn := fun _ => fun
  | [d] => { results := [.lit (.bool false)], args := [d] }
  | _ => none }
def FnExactCondValidWrongFalsely : Prop := fnExactCondValidRow.holds Try.pinned (OpenSpec.ofChange fnExactCondValidWrong)

/-- 'laws.FnExactFormatCond': WHATEVER THE INPUT: true; the input reads as it did. -/
def fnExactFormatCondSpec : ChangeSpec := { name := "fnExactFormatCond", fn := fun _ => fun
  | [d] => { results := [.lit (.bool true)], args := [d] }
  | _ => none }
def fnExactFormatCondRow : OpenClaim := { program := "ytlnmlmpmpnjfmaa", sum := "fb218ae437203e7846390512f103d05f030bc55b4f833f6dd518c7cb90b968f0", func := "loop.example/weakmemory/laws.FnExactFormatCond", spec := "fnExactFormatCond", recurses := true, loops := true, apart := false }
def FnExactFormatCondSaid : Prop := fnExactFormatCondRow.holds Try.pinned (OpenSpec.ofChange fnExactFormatCondSpec)

/-- ITS FALSE NEIGHBOUR: 'it returns false'. Refute it at one input. -/
def fnExactFormatCondWrong : ChangeSpec := { name := "fnExactFormatCond", fn := fun _ => fun
  | [d] => { results := [.lit (.bool false)], args := [d] }
  | _ => none }
def FnExactFormatCondWrongFalsely : Prop := fnExactFormatCondRow.holds Try.pinned (OpenSpec.ofChange fnExactFormatCondWrong)

/-- 'laws.FnExactParseCond': WHATEVER THE INPUT: true; the input reads as it did. -/
def fnExactParseCondSpec : ChangeSpec := { name := "fnExactParseCond", fn := fun _ => fun
  | [d] => { results := [.lit (.bool true)], args := [d] }
  | _ => none }
def fnExactParseCondRow : OpenClaim := { program := "ytlnmlmpmpnjfmaa", sum := "fb218ae437203e7846390512f103d05f030bc55b4f833f6dd518c7cb90b968f0", func := "loop.example/weakmemory/laws.FnExactParseCond", spec := "fnExactParseCond", inPlace := ["internal/bytealg.IndexByteString"], recurses := true, apart := false }
def FnExactParseCondSaid : Prop := fnExactParseCondRow.holds Try.pinned (OpenSpec.ofChange fnExactParseCondSpec)

/-- ITS FALSE NEIGHBOUR: 'it returns false'. Refute it at one input. -/
def fnExactParseCondWrong : ChangeSpec := { name := "fnExactParseCond", fn := fun _ => fun
  | [d] => { results := [.lit (.bool false)], args := [d] }
  | _ => none }
def FnExactParseCondWrongFalsely : Prop := fnExactParseCondRow.holds Try.pinned (OpenSpec.ofChange fnExactParseCondWrong)

/-- 'laws.FnExactCondHolds': WHATEVER THE INPUT: true; the input reads as it did. -/
def fnExactCondHoldsSpec : ChangeSpec := { name := "fnExactCondHolds", fn := fun _ => fun
  | [d1, d2, d3] => { results := [.lit (.bool true)], args := [d1, d2, d3] }
  | _ => none }
def fnExactCondHoldsRow : OpenClaim := { program := "ytlnmlmpmpnjfmaa", sum := "fb218ae437203e7846390512f103d05f030bc55b4f833f6dd518c7cb90b968f0", func := "loop.example/weakmemory/laws.FnExactCondHolds", spec := "fnExactCondHolds", unfollowed := true, recurses := true, loops := true, apart := false }
def FnExactCondHoldsSaid : Prop := fnExactCondHoldsRow.holds Try.pinned (OpenSpec.ofChange fnExactCondHoldsSpec)

/-- ITS FALSE NEIGHBOUR: 'it returns false'. Refute it at one input. -/
def fnExactCondHoldsWrong : ChangeSpec := { name := "fnExactCondHolds", fn := fun _ => fun
  | [d1, d2, d3] => { results := [.lit (.bool false)], args := [d1, d2, d3] }
  | _ => none }
def FnExactCondHoldsWrongFalsely : Prop := fnExactCondHoldsRow.holds Try.pinned (OpenSpec.ofChange fnExactCondHoldsWrong)

/-- 'laws.FnExactOutcomeCond': WHATEVER THE INPUT: true; the input reads as it did. -/
def fnExactOutcomeCondSpec : ChangeSpec := { name := "fnExactOutcomeCond", fn := fun _ => fun
  | [d1, d2] => { results := [.lit (.bool true)], args := [d1, d2] }
  | _ => none }
def fnExactOutcomeCondRow : OpenClaim := { program := "ytlnmlmpmpnjfmaa", sum := "fb218ae437203e7846390512f103d05f030bc55b4f833f6dd518c7cb90b968f0", func := "loop.example/weakmemory/laws.FnExactOutcomeCond", spec := "fnExactOutcomeCond", unfollowed := true, recurses := true, apart := false }
def FnExactOutcomeCondSaid : Prop := fnExactOutcomeCondRow.holds Try.pinned (OpenSpec.ofChange fnExactOutcomeCondSpec)

/-- ITS FALSE NEIGHBOUR: 'it returns false'. Refute it at one input. -/
def fnExactOutcomeCondWrong : ChangeSpec := { name := "fnExactOutcomeCond", fn := fun _ => fun
  | [d1, d2] => { results := [.lit (.bool false)], args := [d1, d2] }
  | _ => none }
def FnExactOutcomeCondWrongFalsely : Prop := fnExactOutcomeCondRow.holds Try.pinned (OpenSpec.ofChange fnExactOutcomeCondWrong)

/- THE SECOND FORM. 'bulk': how many values and letters a reading holds, each counted each time it is reached (what is shared counts as often as it is met; a slice's spare places count too). A statement '..UptoSaid' is the law's where the arguments, and the package variables that the reading takes, are together of bulk at most 1048576: NARROWER than '..Said'. Prove '..Said' where nothing that the law and all that it calls make is longer than what came in: it says more and counts as full. Else prove '..UptoSaid'. A law counts once. -/
mutual
def uptoBulk {H : Type} : DataW H → Nat
  | .lit (.string bytes) => bytes.length + 1
  | .lit _ => 1
  | .nil => 1
  | .ptr d => uptoBulk d + 1
  | .slice elems spare => uptoBulkAll elems + uptoBulkAll spare + 1
  | .agg parts => uptoBulkAll parts + 1
  | .iface _ d => uptoBulk d + 1
  | .map entries => uptoBulkEntries entries + 1
  | .held _ => 1
def uptoBulkAll {H : Type} : List (DataW H) → Nat
  | [] => 0
  | d :: r => uptoBulk d + uptoBulkAll r
def uptoBulkEntries {H : Type} : List (Lit × DataW H) → Nat
  | [] => 0
  | x :: r => uptoBulkEntry x + uptoBulkEntries r
def uptoBulkEntry {H : Type} : Lit × DataW H → Nat
  | (.string bytes, d) => bytes.length + uptoBulk d + 1
  | (_, d) => uptoBulk d + 1
 end
def uptoSmall : (H : Type) → List (DataW H) → Bool := fun _ ds => decide (uptoBulkAll ds ≤ 1048576)
def OpenSpec.upto (s : _root_.Go.ChangeSpec) : _root_.Go.OpenSpec := { _root_.Go.OpenSpec.ofChange s with cond := some uptoSmall }

/-- 'laws.FnExactRaceFree', WHERE WHAT IT READS IS OF BULK AT MOST 1048576: true; the input reads as it did. -/
def fnExactRaceFreeUptoRow : OpenClaim := { program := "ytlnmlmpmpnjfmaa", sum := "fb218ae437203e7846390512f103d05f030bc55b4f833f6dd518c7cb90b968f0", func := "loop.example/weakmemory/laws.FnExactRaceFree", spec := "fnExactRaceFree", unfollowed := true, recurses := true, apart := false, narrowed := true }
def FnExactRaceFreeUptoSaid : Prop := fnExactRaceFreeUptoRow.holds Try.pinned (OpenSpec.upto fnExactRaceFreeSpec)

/-- 'laws.FnExactConflictRel', WHERE WHAT IT READS IS OF BULK AT MOST 1048576: true; the input reads as it did. -/
def fnExactConflictRelUptoRow : OpenClaim := { program := "ytlnmlmpmpnjfmaa", sum := "fb218ae437203e7846390512f103d05f030bc55b4f833f6dd518c7cb90b968f0", func := "loop.example/weakmemory/laws.FnExactConflictRel", spec := "fnExactConflictRel", unfollowed := true, recurses := true, apart := false, narrowed := true }
def FnExactConflictRelUptoSaid : Prop := fnExactConflictRelUptoRow.holds Try.pinned (OpenSpec.upto fnExactConflictRelSpec)

/-- 'laws.FnExactRacesOf', WHERE WHAT IT READS IS OF BULK AT MOST 1048576: true; the input reads as it did. -/
def fnExactRacesOfUptoRow : OpenClaim := { program := "ytlnmlmpmpnjfmaa", sum := "fb218ae437203e7846390512f103d05f030bc55b4f833f6dd518c7cb90b968f0", func := "loop.example/weakmemory/laws.FnExactRacesOf", spec := "fnExactRacesOf", unfollowed := true, recurses := true, apart := false, narrowed := true }
def FnExactRacesOfUptoSaid : Prop := fnExactRacesOfUptoRow.holds Try.pinned (OpenSpec.upto fnExactRacesOfSpec)

/-- 'laws.FnExactDelayRel', WHERE WHAT IT READS IS OF BULK AT MOST 1048576: true; the input reads as it did. -/
def fnExactDelayRelUptoRow : OpenClaim := { program := "ytlnmlmpmpnjfmaa", sum := "fb218ae437203e7846390512f103d05f030bc55b4f833f6dd518c7cb90b968f0", func := "loop.example/weakmemory/laws.FnExactDelayRel", spec := "fnExactDelayRel", unfollowed := true, recurses := true, apart := false, narrowed := true }
def FnExactDelayRelUptoSaid : Prop := fnExactDelayRelUptoRow.holds Try.pinned (OpenSpec.upto fnExactDelayRelSpec)

/-- 'laws.FnExactDelayGaps', WHERE WHAT IT READS IS OF BULK AT MOST 1048576: true; the input reads as it did. -/
def fnExactDelayGapsUptoRow : OpenClaim := { program := "ytlnmlmpmpnjfmaa", sum := "fb218ae437203e7846390512f103d05f030bc55b4f833f6dd518c7cb90b968f0", func := "loop.example/weakmemory/laws.FnExactDelayGaps", spec := "fnExactDelayGaps", unfollowed := true, recurses := true, apart := false, narrowed := true }
def FnExactDelayGapsUptoSaid : Prop := fnExactDelayGapsUptoRow.holds Try.pinned (OpenSpec.upto fnExactDelayGapsSpec)

/-- 'laws.FnExactPutFences', WHERE WHAT IT READS IS OF BULK AT MOST 1048576: true; the input reads as it did. -/
def fnExactPutFencesUptoRow : OpenClaim := { program := "ytlnmlmpmpnjfmaa", sum := "fb218ae437203e7846390512f103d05f030bc55b4f833f6dd518c7cb90b968f0", func := "loop.example/weakmemory/laws.FnExactPutFences", spec := "fnExactPutFences", inPlace := ["slices.overlaps[loop.example/weakmemory/impl.Instr]"], unfollowed := true, recurses := true, apart := false, narrowed := true }
def FnExactPutFencesUptoSaid : Prop := fnExactPutFencesUptoRow.holds Try.pinned (OpenSpec.upto fnExactPutFencesSpec)

/-- 'laws.FnExactCondSame', WHERE WHAT IT READS IS OF BULK AT MOST 1048576: true; the input reads as it did. -/
def fnExactCondSameUptoRow : OpenClaim := { program := "ytlnmlmpmpnjfmaa", sum := "fb218ae437203e7846390512f103d05f030bc55b4f833f6dd518c7cb90b968f0", func := "loop.example/weakmemory/laws.FnExactCondSame", spec := "fnExactCondSame", unfollowed := true, recurses := true, loops := true, apart := false, narrowed := true }
def FnExactCondSameUptoSaid : Prop := fnExactCondSameUptoRow.holds Try.pinned (OpenSpec.upto fnExactCondSameSpec)

/-- 'laws.FnExactCondValid', WHERE WHAT IT READS IS OF BULK AT MOST 1048576: true; the input reads as it did. -/
def fnExactCondValidUptoRow : OpenClaim := { program := "ytlnmlmpmpnjfmaa", sum := "fb218ae437203e7846390512f103d05f030bc55b4f833f6dd518c7cb90b968f0", func := "loop.example/weakmemory/laws.FnExactCondValid", spec := "fnExactCondValid", recurses := true, loops := true, apart := false, narrowed := true }
def FnExactCondValidUptoSaid : Prop := fnExactCondValidUptoRow.holds Try.pinned (OpenSpec.upto fnExactCondValidSpec)

/-- 'laws.FnExactFormatCond', WHERE WHAT IT READS IS OF BULK AT MOST 1048576: true; the input reads as it did. -/
def fnExactFormatCondUptoRow : OpenClaim := { program := "ytlnmlmpmpnjfmaa", sum := "fb218ae437203e7846390512f103d05f030bc55b4f833f6dd518c7cb90b968f0", func := "loop.example/weakmemory/laws.FnExactFormatCond", spec := "fnExactFormatCond", recurses := true, loops := true, apart := false, narrowed := true }
def FnExactFormatCondUptoSaid : Prop := fnExactFormatCondUptoRow.holds Try.pinned (OpenSpec.upto fnExactFormatCondSpec)

/-- 'laws.FnExactParseCond', WHERE WHAT IT READS IS OF BULK AT MOST 1048576: true; the input reads as it did. -/
def fnExactParseCondUptoRow : OpenClaim := { program := "ytlnmlmpmpnjfmaa", sum := "fb218ae437203e7846390512f103d05f030bc55b4f833f6dd518c7cb90b968f0", func := "loop.example/weakmemory/laws.FnExactParseCond", spec := "fnExactParseCond", inPlace := ["internal/bytealg.IndexByteString"], recurses := true, apart := false, narrowed := true }
def FnExactParseCondUptoSaid : Prop := fnExactParseCondUptoRow.holds Try.pinned (OpenSpec.upto fnExactParseCondSpec)

/-- 'laws.FnExactCondHolds', WHERE WHAT IT READS IS OF BULK AT MOST 1048576: true; the input reads as it did. -/
def fnExactCondHoldsUptoRow : OpenClaim := { program := "ytlnmlmpmpnjfmaa", sum := "fb218ae437203e7846390512f103d05f030bc55b4f833f6dd518c7cb90b968f0", func := "loop.example/weakmemory/laws.FnExactCondHolds", spec := "fnExactCondHolds", unfollowed := true, recurses := true, loops := true, apart := false, narrowed := true }
def FnExactCondHoldsUptoSaid : Prop := fnExactCondHoldsUptoRow.holds Try.pinned (OpenSpec.upto fnExactCondHoldsSpec)

/-- 'laws.FnExactOutcomeCond', WHERE WHAT IT READS IS OF BULK AT MOST 1048576: true; the input reads as it did. -/
def fnExactOutcomeCondUptoRow : OpenClaim := { program := "ytlnmlmpmpnjfmaa", sum := "fb218ae437203e7846390512f103d05f030bc55b4f833f6dd518c7cb90b968f0", func := "loop.example/weakmemory/laws.FnExactOutcomeCond", spec := "fnExactOutcomeCond", unfollowed := true, recurses := true, apart := false, narrowed := true }
def FnExactOutcomeCondUptoSaid : Prop := fnExactOutcomeCondUptoRow.holds Try.pinned (OpenSpec.upto fnExactOutcomeCondSpec)

end Rows
end Go.Proofs.Ytlnmlmpmpnjfmaa
