/-
  NARROWER THAN 'FOR EVERY INPUT', by the rows' own cells (each row's printed sentence says how): FnExactCondSame: loops · FnExactCondValid: loops · FnExactFormatCond: loops.
  DERIVED. THE GIVEN ROWS OF THIS SEAT. 12 by the template 'for every input the law returns true; each argument reads behind the call as it read before'; 0 by the template 'total and deterministic' (their statements: YtkgkgmalgilabaaTotals.lean).
  GIVEN WITH THE SEED: the statements are not yours to turn. If you find one false, say at which input.
  Laid BY PROGRAM, IN A SANDBOX (cutbox-rows.mjs): the forced cells as the released guide's own fill.sh prints them over the translation f2f68148cb46e8ee… (all of the seat's roots in one cut). By AI agents, Wed Nov 11 2026. No macro, syntax, notation, axiom, sorry.
-/
import Derived.Test.YtkgkgmalgilabaaChecked
import GoSem.Claim
import GoSem.ClaimJoined
import GoSem.ClaimMapViews
import Derived.JoinedTies
import Derived.KernelRfl
namespace Go.Proofs.Ytkgkgmalgilabaa
/- THE CELL 'sum', in the pinned program and in every row, IS THE sha256 OF THE DUMP (.gsa) THAT YtkgkgmalgilabaaProg.lean LOADS. Nothing in Lean hashes anything: it is a label: what it is worth is what the hold of that sum in a sandbox is worth. -/
noncomputable def Try.pinned : Pinned := { name := "ytkgkgmalgilabaa", sum := "f2f68148cb46e8eea44d37562e76068fcdf31bc39b82ddfa529406741aa6ac06", checked := Try.checked }
namespace Rows
def none {H : Type} : Left H := { results := [], args := [] }

/-- 'laws.FnExactModelText': WHATEVER THE INPUT: true; the input reads as it did. -/
def fnExactModelTextSpec : ChangeSpec := { name := "fnExactModelText", fn := fun _ => fun
  | [d] => { results := [.lit (.bool true)], args := [d] }
  | _ => none }
def fnExactModelTextRow : OpenClaim := { program := "ytkgkgmalgilabaa", sum := "f2f68148cb46e8eea44d37562e76068fcdf31bc39b82ddfa529406741aa6ac06", func := "loop.example/weakmemory/laws.FnExactModelText", spec := "fnExactModelText", apart := false }
def FnExactModelTextSaid : Prop := fnExactModelTextRow.holds Try.pinned (OpenSpec.ofChange fnExactModelTextSpec)

/-- ITS FALSE NEIGHBOUR: 'it returns false'. Refute it at one input. -/
def fnExactModelTextWrong : ChangeSpec := { name := "fnExactModelText", fn := fun _ => fun
  | [d] => { results := [.lit (.bool false)], args := [d] }
  | _ => none }
def FnExactModelTextWrongFalsely : Prop := fnExactModelTextRow.holds Try.pinned (OpenSpec.ofChange fnExactModelTextWrong)

/-- 'laws.FnExactCondSame': WHATEVER THE INPUT: true; the input reads as it did. -/
def fnExactCondSameSpec : ChangeSpec := { name := "fnExactCondSame", fn := fun _ => fun
  | [d1, d2] => { results := [.lit (.bool true)], args := [d1, d2] }
  | _ => none }
def fnExactCondSameRow : OpenClaim := { program := "ytkgkgmalgilabaa", sum := "f2f68148cb46e8eea44d37562e76068fcdf31bc39b82ddfa529406741aa6ac06", func := "loop.example/weakmemory/laws.FnExactCondSame", spec := "fnExactCondSame", unfollowed := true, recurses := true, loops := true, apart := false }
def FnExactCondSameSaid : Prop := fnExactCondSameRow.holds Try.pinned (OpenSpec.ofChange fnExactCondSameSpec)

/-- ITS FALSE NEIGHBOUR: 'it returns false'. Refute it at one input. -/
def fnExactCondSameWrong : ChangeSpec := { name := "fnExactCondSame", fn := fun _ => fun
  | [d1, d2] => { results := [.lit (.bool false)], args := [d1, d2] }
  | _ => none }
def FnExactCondSameWrongFalsely : Prop := fnExactCondSameRow.holds Try.pinned (OpenSpec.ofChange fnExactCondSameWrong)

/-- 'laws.FnCondSame': WHATEVER THE INPUT: true; the input reads as it did. -/
def fnCondSameSpec : ChangeSpec := { name := "fnCondSame", fn := fun _ => fun
  | [d] => { results := [.lit (.bool true)], args := [d] }
  | _ => none }
def fnCondSameRow : OpenClaim := { program := "ytkgkgmalgilabaa", sum := "f2f68148cb46e8eea44d37562e76068fcdf31bc39b82ddfa529406741aa6ac06", func := "loop.example/weakmemory/laws.FnCondSame", spec := "fnCondSame", unfollowed := true, recurses := true, apart := false }
def FnCondSameSaid : Prop := fnCondSameRow.holds Try.pinned (OpenSpec.ofChange fnCondSameSpec)

/-- ITS FALSE NEIGHBOUR: 'it returns false'. Refute it at one input. -/
def fnCondSameWrong : ChangeSpec := { name := "fnCondSame", fn := fun _ => fun
  | [d] => { results := [.lit (.bool false)], args := [d] }
  | _ => none }
def FnCondSameWrongFalsely : Prop := fnCondSameRow.holds Try.pinned (OpenSpec.ofChange fnCondSameWrong)

/-- 'laws.FnExactCondValid': WHATEVER THE INPUT: true; the input reads as it did. -/
def fnExactCondValidSpec : ChangeSpec := { name := "fnExactCondValid", fn := fun _ => fun
  | [d] => { results := [.lit (.bool true)], args := [d] }
  | _ => none }
def fnExactCondValidRow : OpenClaim := { program := "ytkgkgmalgilabaa", sum := "f2f68148cb46e8eea44d37562e76068fcdf31bc39b82ddfa529406741aa6ac06", func := "loop.example/weakmemory/laws.FnExactCondValid", spec := "fnExactCondValid", recurses := true, loops := true, apart := false }
def FnExactCondValidSaid : Prop := fnExactCondValidRow.holds Try.pinned (OpenSpec.ofChange fnExactCondValidSpec)

/-- ITS FALSE NEIGHBOUR: 'it returns false'. Refute it at one input. -/
def fnExactCondValidWrong : ChangeSpec := { name := "fnExactCondValid", fn := fun _ => fun
  | [d] => { results := [.lit (.bool false)], args := [d] }
  | _ => none }
def FnExactCondValidWrongFalsely : Prop := fnExactCondValidRow.holds Try.pinned (OpenSpec.ofChange fnExactCondValidWrong)

/-- 'laws.FnExactCompareOutcomes': WHATEVER THE INPUT: true; the input reads as it did. -/
def fnExactCompareOutcomesSpec : ChangeSpec := { name := "fnExactCompareOutcomes", fn := fun _ => fun
  | [d1, d2] => { results := [.lit (.bool true)], args := [d1, d2] }
  | _ => none }
def fnExactCompareOutcomesRow : OpenClaim := { program := "ytkgkgmalgilabaa", sum := "f2f68148cb46e8eea44d37562e76068fcdf31bc39b82ddfa529406741aa6ac06", func := "loop.example/weakmemory/laws.FnExactCompareOutcomes", spec := "fnExactCompareOutcomes", unfollowed := true, recurses := true, apart := false }
def FnExactCompareOutcomesSaid : Prop := fnExactCompareOutcomesRow.holds Try.pinned (OpenSpec.ofChange fnExactCompareOutcomesSpec)

/-- ITS FALSE NEIGHBOUR: 'it returns false'. Refute it at one input. -/
def fnExactCompareOutcomesWrong : ChangeSpec := { name := "fnExactCompareOutcomes", fn := fun _ => fun
  | [d1, d2] => { results := [.lit (.bool false)], args := [d1, d2] }
  | _ => none }
def FnExactCompareOutcomesWrongFalsely : Prop := fnExactCompareOutcomesRow.holds Try.pinned (OpenSpec.ofChange fnExactCompareOutcomesWrong)

/-- 'laws.FnExactFormatCond': WHATEVER THE INPUT: true; the input reads as it did. -/
def fnExactFormatCondSpec : ChangeSpec := { name := "fnExactFormatCond", fn := fun _ => fun
  | [d] => { results := [.lit (.bool true)], args := [d] }
  | _ => none }
def fnExactFormatCondRow : OpenClaim := { program := "ytkgkgmalgilabaa", sum := "f2f68148cb46e8eea44d37562e76068fcdf31bc39b82ddfa529406741aa6ac06", func := "loop.example/weakmemory/laws.FnExactFormatCond", spec := "fnExactFormatCond", recurses := true, loops := true, apart := false }
def FnExactFormatCondSaid : Prop := fnExactFormatCondRow.holds Try.pinned (OpenSpec.ofChange fnExactFormatCondSpec)

/-- ITS FALSE NEIGHBOUR: 'it returns false'. Refute it at one input. -/
def fnExactFormatCondWrong : ChangeSpec := { name := "fnExactFormatCond", fn := fun _ => fun
  | [d] => { results := [.lit (.bool false)], args := [d] }
  | _ => none }
def FnExactFormatCondWrongFalsely : Prop := fnExactFormatCondRow.holds Try.pinned (OpenSpec.ofChange fnExactFormatCondWrong)

/-- 'laws.FnExactRaceFree': WHATEVER THE INPUT: true; the input reads as it did. -/
def fnExactRaceFreeSpec : ChangeSpec := { name := "fnExactRaceFree", fn := fun _ => fun
  | [d] => { results := [.lit (.bool true)], args := [d] }
  | _ => none }
def fnExactRaceFreeRow : OpenClaim := { program := "ytkgkgmalgilabaa", sum := "f2f68148cb46e8eea44d37562e76068fcdf31bc39b82ddfa529406741aa6ac06", func := "loop.example/weakmemory/laws.FnExactRaceFree", spec := "fnExactRaceFree", unfollowed := true, recurses := true, apart := false }
def FnExactRaceFreeSaid : Prop := fnExactRaceFreeRow.holds Try.pinned (OpenSpec.ofChange fnExactRaceFreeSpec)

/-- ITS FALSE NEIGHBOUR: 'it returns false'. Refute it at one input. -/
def fnExactRaceFreeWrong : ChangeSpec := { name := "fnExactRaceFree", fn := fun _ => fun
  | [d] => { results := [.lit (.bool false)], args := [d] }
  | _ => none }
def FnExactRaceFreeWrongFalsely : Prop := fnExactRaceFreeRow.holds Try.pinned (OpenSpec.ofChange fnExactRaceFreeWrong)

/-- 'laws.FnExactGapsOf': WHATEVER THE INPUT: true; the input reads as it did. -/
def fnExactGapsOfSpec : ChangeSpec := { name := "fnExactGapsOf", fn := fun _ => fun
  | [d] => { results := [.lit (.bool true)], args := [d] }
  | _ => none }
def fnExactGapsOfRow : OpenClaim := { program := "ytkgkgmalgilabaa", sum := "f2f68148cb46e8eea44d37562e76068fcdf31bc39b82ddfa529406741aa6ac06", func := "loop.example/weakmemory/laws.FnExactGapsOf", spec := "fnExactGapsOf", unfollowed := true, recurses := true, apart := false }
def FnExactGapsOfSaid : Prop := fnExactGapsOfRow.holds Try.pinned (OpenSpec.ofChange fnExactGapsOfSpec)

/-- ITS FALSE NEIGHBOUR: 'it returns false'. Refute it at one input. -/
def fnExactGapsOfWrong : ChangeSpec := { name := "fnExactGapsOf", fn := fun _ => fun
  | [d] => { results := [.lit (.bool false)], args := [d] }
  | _ => none }
def FnExactGapsOfWrongFalsely : Prop := fnExactGapsOfRow.holds Try.pinned (OpenSpec.ofChange fnExactGapsOfWrong)

/-- 'laws.FnExactParseCond': WHATEVER THE INPUT: true; the input reads as it did. -/
def fnExactParseCondSpec : ChangeSpec := { name := "fnExactParseCond", fn := fun _ => fun
  | [d] => { results := [.lit (.bool true)], args := [d] }
  | _ => none }
def fnExactParseCondRow : OpenClaim := { program := "ytkgkgmalgilabaa", sum := "f2f68148cb46e8eea44d37562e76068fcdf31bc39b82ddfa529406741aa6ac06", func := "loop.example/weakmemory/laws.FnExactParseCond", spec := "fnExactParseCond", inPlace := ["internal/bytealg.IndexByteString"], recurses := true, apart := false }
def FnExactParseCondSaid : Prop := fnExactParseCondRow.holds Try.pinned (OpenSpec.ofChange fnExactParseCondSpec)

/-- ITS FALSE NEIGHBOUR: 'it returns false'. Refute it at one input. -/
def fnExactParseCondWrong : ChangeSpec := { name := "fnExactParseCond", fn := fun _ => fun
  | [d] => { results := [.lit (.bool false)], args := [d] }
  | _ => none }
def FnExactParseCondWrongFalsely : Prop := fnExactParseCondRow.holds Try.pinned (OpenSpec.ofChange fnExactParseCondWrong)

/-- 'laws.FnExactSwapStores': WHATEVER THE INPUT: true; the input reads as it did. -/
def fnExactSwapStoresSpec : ChangeSpec := { name := "fnExactSwapStores", fn := fun _ => fun
  | [d1, d2] => { results := [.lit (.bool true)], args := [d1, d2] }
  | _ => none }
def fnExactSwapStoresRow : OpenClaim := { program := "ytkgkgmalgilabaa", sum := "f2f68148cb46e8eea44d37562e76068fcdf31bc39b82ddfa529406741aa6ac06", func := "loop.example/weakmemory/laws.FnExactSwapStores", spec := "fnExactSwapStores", unfollowed := true, recurses := true, apart := false }
def FnExactSwapStoresSaid : Prop := fnExactSwapStoresRow.holds Try.pinned (OpenSpec.ofChange fnExactSwapStoresSpec)

/-- ITS FALSE NEIGHBOUR: 'it returns false'. Refute it at one input. -/
def fnExactSwapStoresWrong : ChangeSpec := { name := "fnExactSwapStores", fn := fun _ => fun
  | [d1, d2] => { results := [.lit (.bool false)], args := [d1, d2] }
  | _ => none }
def FnExactSwapStoresWrongFalsely : Prop := fnExactSwapStoresRow.holds Try.pinned (OpenSpec.ofChange fnExactSwapStoresWrong)

/-- 'laws.FnCondText': WHATEVER THE INPUT: true; the input reads as it did. -/
def fnCondTextSpec : ChangeSpec := { name := "fnCondText", fn := fun _ => fun
  | [d1, d2] => { results := [.lit (.bool true)], args := [d1, d2] }
  | _ => none }
def fnCondTextRow : OpenClaim := { program := "ytkgkgmalgilabaa", sum := "f2f68148cb46e8eea44d37562e76068fcdf31bc39b82ddfa529406741aa6ac06", func := "loop.example/weakmemory/laws.FnCondText", spec := "fnCondText", inPlace := ["internal/bytealg.IndexByteString"], unfollowed := true, recurses := true, apart := false }
def FnCondTextSaid : Prop := fnCondTextRow.holds Try.pinned (OpenSpec.ofChange fnCondTextSpec)

/-- ITS FALSE NEIGHBOUR: 'it returns false'. Refute it at one input. -/
def fnCondTextWrong : ChangeSpec := { name := "fnCondText", fn := fun _ => fun
  | [d1, d2] => { results := [.lit (.bool false)], args := [d1, d2] }
  | _ => none }
def FnCondTextWrongFalsely : Prop := fnCondTextRow.holds Try.pinned (OpenSpec.ofChange fnCondTextWrong)

/-- 'laws.FnExactDropFences': WHATEVER THE INPUT: true; the input reads as it did. -/
def fnExactDropFencesSpec : ChangeSpec := { name := "fnExactDropFences", fn := fun _ => fun
  | [d] => { results := [.lit (.bool true)], args := [d] }
  | _ => none }
def fnExactDropFencesRow : OpenClaim := { program := "ytkgkgmalgilabaa", sum := "f2f68148cb46e8eea44d37562e76068fcdf31bc39b82ddfa529406741aa6ac06", func := "loop.example/weakmemory/laws.FnExactDropFences", spec := "fnExactDropFences", unfollowed := true, recurses := true, apart := false }
def FnExactDropFencesSaid : Prop := fnExactDropFencesRow.holds Try.pinned (OpenSpec.ofChange fnExactDropFencesSpec)

/-- ITS FALSE NEIGHBOUR: 'it returns false'. Refute it at one input. -/
def fnExactDropFencesWrong : ChangeSpec := { name := "fnExactDropFences", fn := fun _ => fun
  | [d] => { results := [.lit (.bool false)], args := [d] }
  | _ => none }
def FnExactDropFencesWrongFalsely : Prop := fnExactDropFencesRow.holds Try.pinned (OpenSpec.ofChange fnExactDropFencesWrong)

/- THE SECOND FORM. 'bulk': how many values and letters a reading holds, each counted each time it is reached (what is shared counts as often as it is met; a slice's spare places count too). A statement '..UptoSaid' is the law's where the arguments, and the package variables that the reading takes, are together of bulk at most 1048576: NARROWER than '..Said'. Prove '..Said' where nothing that the law and all that it calls make is longer than what came in: it says more and counts as full. Else prove '..UptoSaid'. A law counts once. -/
mutual
def uptoBulk {H : Type} : DataW H → Nat
  | .lit (.string bytes) => bytes.length + 1
  | .lit _ => 1
  | .nil => 1
  | .ptr d => uptoBulk d + 1
  | .slice elems spare => uptoBulkAll elems + uptoBulkAll spare + 1
  | .agg parts => uptoBulkAll parts + 1
  | .iface _ d => uptoBulk d + 1
  | .map entries => uptoBulkEntries entries + 1
  | .held _ => 1
def uptoBulkAll {H : Type} : List (DataW H) → Nat
  | [] => 0
  | d :: r => uptoBulk d + uptoBulkAll r
def uptoBulkEntries {H : Type} : List (Lit × DataW H) → Nat
  | [] => 0
  | x :: r => uptoBulkEntry x + uptoBulkEntries r
def uptoBulkEntry {H : Type} : Lit × DataW H → Nat
  | (.string bytes, d) => bytes.length + uptoBulk d + 1
  | (_, d) => uptoBulk d + 1
 end
def uptoSmall : (H : Type) → List (DataW H) → Bool := fun _ ds => decide (uptoBulkAll ds ≤ 1048576)
def OpenSpec.upto (s : _root_.Go.ChangeSpec) : _root_.Go.OpenSpec := { _root_.Go.OpenSpec.ofChange s with cond := some uptoSmall }

/-- 'laws.FnExactModelText', WHERE WHAT IT READS IS OF BULK AT MOST 1048576: true; the input reads as it did. -/
def fnExactModelTextUptoRow : OpenClaim := { program := "ytkgkgmalgilabaa", sum := "f2f68148cb46e8eea44d37562e76068fcdf31bc39b82ddfa529406741aa6ac06", func := "loop.example/weakmemory/laws.FnExactModelText", spec := "fnExactModelText", apart := false, narrowed := true }
def FnExactModelTextUptoSaid : Prop := fnExactModelTextUptoRow.holds Try.pinned (OpenSpec.upto fnExactModelTextSpec)

/-- 'laws.FnExactCondSame', WHERE WHAT IT READS IS OF BULK AT MOST 1048576: true; the input reads as it did. -/
def fnExactCondSameUptoRow : OpenClaim := { program := "ytkgkgmalgilabaa", sum := "f2f68148cb46e8eea44d37562e76068fcdf31bc39b82ddfa529406741aa6ac06", func := "loop.example/weakmemory/laws.FnExactCondSame", spec := "fnExactCondSame", unfollowed := true, recurses := true, loops := true, apart := false, narrowed := true }
def FnExactCondSameUptoSaid : Prop := fnExactCondSameUptoRow.holds Try.pinned (OpenSpec.upto fnExactCondSameSpec)

/-- 'laws.FnCondSame', WHERE WHAT IT READS IS OF BULK AT MOST 1048576: true; the input reads as it did. -/
def fnCondSameUptoRow : OpenClaim := { program := "ytkgkgmalgilabaa", sum := "f2f68148cb46e8eea44d37562e76068fcdf31bc39b82ddfa529406741aa6ac06", func := "loop.example/weakmemory/laws.FnCondSame", spec := "fnCondSame", unfollowed := true, recurses := true, apart := false, narrowed := true }
def FnCondSameUptoSaid : Prop := fnCondSameUptoRow.holds Try.pinned (OpenSpec.upto fnCondSameSpec)

/-- 'laws.FnExactCondValid', WHERE WHAT IT READS IS OF BULK AT MOST 1048576: true; the input reads as it did. -/
def fnExactCondValidUptoRow : OpenClaim := { program := "ytkgkgmalgilabaa", sum := "f2f68148cb46e8eea44d37562e76068fcdf31bc39b82ddfa529406741aa6ac06", func := "loop.example/weakmemory/laws.FnExactCondValid", spec := "fnExactCondValid", recurses := true, loops := true, apart := false, narrowed := true }
def FnExactCondValidUptoSaid : Prop := fnExactCondValidUptoRow.holds Try.pinned (OpenSpec.upto fnExactCondValidSpec)

/-- 'laws.FnExactCompareOutcomes', WHERE WHAT IT READS IS OF BULK AT MOST 1048576: true; the input reads as it did. -/
def fnExactCompareOutcomesUptoRow : OpenClaim := { program := "ytkgkgmalgilabaa", sum := "f2f68148cb46e8eea44d37562e76068fcdf31bc39b82ddfa529406741aa6ac06", func := "loop.example/weakmemory/laws.FnExactCompareOutcomes", spec := "fnExactCompareOutcomes", unfollowed := true, recurses := true, apart := false, narrowed := true }
def FnExactCompareOutcomesUptoSaid : Prop := fnExactCompareOutcomesUptoRow.holds Try.pinned (OpenSpec.upto fnExactCompareOutcomesSpec)

/-- 'laws.FnExactFormatCond', WHERE WHAT IT READS IS OF BULK AT MOST 1048576: true; the input reads as it did. -/
def fnExactFormatCondUptoRow : OpenClaim := { program := "ytkgkgmalgilabaa", sum := "f2f68148cb46e8eea44d37562e76068fcdf31bc39b82ddfa529406741aa6ac06", func := "loop.example/weakmemory/laws.FnExactFormatCond", spec := "fnExactFormatCond", recurses := true, loops := true, apart := false, narrowed := true }
def FnExactFormatCondUptoSaid : Prop := fnExactFormatCondUptoRow.holds Try.pinned (OpenSpec.upto fnExactFormatCondSpec)

/-- 'laws.FnExactRaceFree', WHERE WHAT IT READS IS OF BULK AT MOST 1048576: true; the input reads as it did. -/
def fnExactRaceFreeUptoRow : OpenClaim := { program := "ytkgkgmalgilabaa", sum := "f2f68148cb46e8eea44d37562e76068fcdf31bc39b82ddfa529406741aa6ac06", func := "loop.example/weakmemory/laws.FnExactRaceFree", spec := "fnExactRaceFree", unfollowed := true, recurses := true, apart := false, narrowed := true }
def FnExactRaceFreeUptoSaid : Prop := fnExactRaceFreeUptoRow.holds Try.pinned (OpenSpec.upto fnExactRaceFreeSpec)

/-- 'laws.FnExactGapsOf', WHERE WHAT IT READS IS OF BULK AT MOST 1048576: true; the input reads as it did. -/
def fnExactGapsOfUptoRow : OpenClaim := { program := "ytkgkgmalgilabaa", sum := "f2f68148cb46e8eea44d37562e76068fcdf31bc39b82ddfa529406741aa6ac06", func := "loop.example/weakmemory/laws.FnExactGapsOf", spec := "fnExactGapsOf", unfollowed := true, recurses := true, apart := false, narrowed := true }
def FnExactGapsOfUptoSaid : Prop := fnExactGapsOfUptoRow.holds Try.pinned (OpenSpec.upto fnExactGapsOfSpec)

/-- 'laws.FnExactParseCond', WHERE WHAT IT READS IS OF BULK AT MOST 1048576: true; the input reads as it did. -/
def fnExactParseCondUptoRow : OpenClaim := { program := "ytkgkgmalgilabaa", sum := "f2f68148cb46e8eea44d37562e76068fcdf31bc39b82ddfa529406741aa6ac06", func := "loop.example/weakmemory/laws.FnExactParseCond", spec := "fnExactParseCond", inPlace := ["internal/bytealg.IndexByteString"], recurses := true, apart := false, narrowed := true }
def FnExactParseCondUptoSaid : Prop := fnExactParseCondUptoRow.holds Try.pinned (OpenSpec.upto fnExactParseCondSpec)

/-- 'laws.FnExactSwapStores', WHERE WHAT IT READS IS OF BULK AT MOST 1048576: true; the input reads as it did. -/
def fnExactSwapStoresUptoRow : OpenClaim := { program := "ytkgkgmalgilabaa", sum := "f2f68148cb46e8eea44d37562e76068fcdf31bc39b82ddfa529406741aa6ac06", func := "loop.example/weakmemory/laws.FnExactSwapStores", spec := "fnExactSwapStores", unfollowed := true, recurses := true, apart := false, narrowed := true }
def FnExactSwapStoresUptoSaid : Prop := fnExactSwapStoresUptoRow.holds Try.pinned (OpenSpec.upto fnExactSwapStoresSpec)

/-- 'laws.FnCondText', WHERE WHAT IT READS IS OF BULK AT MOST 1048576: true; the input reads as it did. -/
def fnCondTextUptoRow : OpenClaim := { program := "ytkgkgmalgilabaa", sum := "f2f68148cb46e8eea44d37562e76068fcdf31bc39b82ddfa529406741aa6ac06", func := "loop.example/weakmemory/laws.FnCondText", spec := "fnCondText", inPlace := ["internal/bytealg.IndexByteString"], unfollowed := true, recurses := true, apart := false, narrowed := true }
def FnCondTextUptoSaid : Prop := fnCondTextUptoRow.holds Try.pinned (OpenSpec.upto fnCondTextSpec)

/-- 'laws.FnExactDropFences', WHERE WHAT IT READS IS OF BULK AT MOST 1048576: true; the input reads as it did. -/
def fnExactDropFencesUptoRow : OpenClaim := { program := "ytkgkgmalgilabaa", sum := "f2f68148cb46e8eea44d37562e76068fcdf31bc39b82ddfa529406741aa6ac06", func := "loop.example/weakmemory/laws.FnExactDropFences", spec := "fnExactDropFences", unfollowed := true, recurses := true, apart := false, narrowed := true }
def FnExactDropFencesUptoSaid : Prop := fnExactDropFencesUptoRow.holds Try.pinned (OpenSpec.upto fnExactDropFencesSpec)

end Rows
end Go.Proofs.Ytkgkgmalgilabaa
