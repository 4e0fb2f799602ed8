/-
  No cell of these rows narrows 'for every input' (looked for: loops, veiled, ifaces, maps, wideKeys, modest, calm, conditions, laid).
  DERIVED. THE GIVEN ROWS OF THIS SEAT. 6 by the template 'for every input the law returns true; each argument reads behind the call as it read before'; 0 by the template 'total and deterministic' (their statements: YthglefilfpnikaaTotals.lean).
  GIVEN WITH THE SEED: the statements are not yours to turn. If you find one false, say at which input.
  Laid BY PROGRAM, IN A SANDBOX (cutbox-rows.mjs): the forced cells as the released guide's own fill.sh prints them over the translation d19bb3ce45785927… (all of the seat's roots in one cut). By AI agents, Wed Nov 11 2026. No macro, syntax, notation, axiom, sorry.
-/
import Derived.Test.YthglefilfpnikaaChecked
import GoSem.Claim
import GoSem.ClaimJoined
import GoSem.ClaimMapViews
import Derived.JoinedTies
import Derived.KernelRfl
namespace Go.Proofs.Ythglefilfpnikaa
/- THE CELL 'sum', in the pinned program and in every row, IS THE sha256 OF THE DUMP (.gsa) THAT YthglefilfpnikaaProg.lean LOADS. Nothing in Lean hashes anything: it is a label: what it is worth is what the hold of that sum in a sandbox is worth. -/
noncomputable def Try.pinned : Pinned := { name := "ythglefilfpnikaa", sum := "d19bb3ce45785927d3c98bb30d2935c0742714a0820049ab98279572b98b6830", checked := Try.checked }
namespace Rows
def none {H : Type} : Left H := { results := [], args := [] }

/-- 'laws.FnRacesOf': WHATEVER THE INPUT: true; the input reads as it did. -/
def fnRacesOfSpec : ChangeSpec := { name := "fnRacesOf", fn := fun _ => fun
  | [d] => { results := [.lit (.bool true)], args := [d] }
  | _ => none }
def fnRacesOfRow : OpenClaim := { program := "ythglefilfpnikaa", sum := "d19bb3ce45785927d3c98bb30d2935c0742714a0820049ab98279572b98b6830", func := "loop.example/weakmemory/laws.FnRacesOf", spec := "fnRacesOf", unfollowed := true, recurses := true, apart := false }
def FnRacesOfSaid : Prop := fnRacesOfRow.holds Try.pinned (OpenSpec.ofChange fnRacesOfSpec)

/-- ITS FALSE NEIGHBOUR: 'it returns false'. Refute it at one input. -/
def fnRacesOfWrong : ChangeSpec := { name := "fnRacesOf", fn := fun _ => fun
  | [d] => { results := [.lit (.bool false)], args := [d] }
  | _ => none }
def FnRacesOfWrongFalsely : Prop := fnRacesOfRow.holds Try.pinned (OpenSpec.ofChange fnRacesOfWrong)

/-- 'laws.FnRaceSwap': WHATEVER THE INPUT: true; the input reads as it did. -/
def fnRaceSwapSpec : ChangeSpec := { name := "fnRaceSwap", fn := fun _ => fun
  | [d] => { results := [.lit (.bool true)], args := [d] }
  | _ => none }
def fnRaceSwapRow : OpenClaim := { program := "ythglefilfpnikaa", sum := "d19bb3ce45785927d3c98bb30d2935c0742714a0820049ab98279572b98b6830", func := "loop.example/weakmemory/laws.FnRaceSwap", spec := "fnRaceSwap", unfollowed := true, recurses := true, apart := false }
def FnRaceSwapSaid : Prop := fnRaceSwapRow.holds Try.pinned (OpenSpec.ofChange fnRaceSwapSpec)

/-- ITS FALSE NEIGHBOUR: 'it returns false'. Refute it at one input. -/
def fnRaceSwapWrong : ChangeSpec := { name := "fnRaceSwap", fn := fun _ => fun
  | [d] => { results := [.lit (.bool false)], args := [d] }
  | _ => none }
def FnRaceSwapWrongFalsely : Prop := fnRaceSwapRow.holds Try.pinned (OpenSpec.ofChange fnRaceSwapWrong)

/-- 'laws.FnSwapStores': WHATEVER THE INPUT: true; the input reads as it did. -/
def fnSwapStoresSpec : ChangeSpec := { name := "fnSwapStores", fn := fun _ => fun
  | [d] => { results := [.lit (.bool true)], args := [d] }
  | _ => none }
def fnSwapStoresRow : OpenClaim := { program := "ythglefilfpnikaa", sum := "d19bb3ce45785927d3c98bb30d2935c0742714a0820049ab98279572b98b6830", func := "loop.example/weakmemory/laws.FnSwapStores", spec := "fnSwapStores", unfollowed := true, recurses := true, apart := false }
def FnSwapStoresSaid : Prop := fnSwapStoresRow.holds Try.pinned (OpenSpec.ofChange fnSwapStoresSpec)

/-- ITS FALSE NEIGHBOUR: 'it returns false'. Refute it at one input. -/
def fnSwapStoresWrong : ChangeSpec := { name := "fnSwapStores", fn := fun _ => fun
  | [d] => { results := [.lit (.bool false)], args := [d] }
  | _ => none }
def FnSwapStoresWrongFalsely : Prop := fnSwapStoresRow.holds Try.pinned (OpenSpec.ofChange fnSwapStoresWrong)

/-- 'laws.FnCondSame': WHATEVER THE INPUT: true; the input reads as it did. -/
def fnCondSameSpec : ChangeSpec := { name := "fnCondSame", fn := fun _ => fun
  | [d] => { results := [.lit (.bool true)], args := [d] }
  | _ => none }
def fnCondSameRow : OpenClaim := { program := "ythglefilfpnikaa", sum := "d19bb3ce45785927d3c98bb30d2935c0742714a0820049ab98279572b98b6830", func := "loop.example/weakmemory/laws.FnCondSame", spec := "fnCondSame", unfollowed := true, recurses := true, apart := false }
def FnCondSameSaid : Prop := fnCondSameRow.holds Try.pinned (OpenSpec.ofChange fnCondSameSpec)

/-- ITS FALSE NEIGHBOUR: 'it returns false'. Refute it at one input. -/
def fnCondSameWrong : ChangeSpec := { name := "fnCondSame", fn := fun _ => fun
  | [d] => { results := [.lit (.bool false)], args := [d] }
  | _ => none }
def FnCondSameWrongFalsely : Prop := fnCondSameRow.holds Try.pinned (OpenSpec.ofChange fnCondSameWrong)

/-- 'laws.FnCondText': WHATEVER THE INPUT: true; the input reads as it did. -/
def fnCondTextSpec : ChangeSpec := { name := "fnCondText", fn := fun _ => fun
  | [d1, d2] => { results := [.lit (.bool true)], args := [d1, d2] }
  | _ => none }
def fnCondTextRow : OpenClaim := { program := "ythglefilfpnikaa", sum := "d19bb3ce45785927d3c98bb30d2935c0742714a0820049ab98279572b98b6830", func := "loop.example/weakmemory/laws.FnCondText", spec := "fnCondText", inPlace := ["internal/bytealg.IndexByteString"], unfollowed := true, recurses := true, apart := false }
def FnCondTextSaid : Prop := fnCondTextRow.holds Try.pinned (OpenSpec.ofChange fnCondTextSpec)

/-- ITS FALSE NEIGHBOUR: 'it returns false'. Refute it at one input. -/
def fnCondTextWrong : ChangeSpec := { name := "fnCondText", fn := fun _ => fun
  | [d1, d2] => { results := [.lit (.bool false)], args := [d1, d2] }
  | _ => none }
def FnCondTextWrongFalsely : Prop := fnCondTextRow.holds Try.pinned (OpenSpec.ofChange fnCondTextWrong)

/-- 'laws.FnConflictRel': WHATEVER THE INPUT: true; the input reads as it did. -/
def fnConflictRelSpec : ChangeSpec := { name := "fnConflictRel", fn := fun _ => fun
  | [d] => { results := [.lit (.bool true)], args := [d] }
  | _ => none }
def fnConflictRelRow : OpenClaim := { program := "ythglefilfpnikaa", sum := "d19bb3ce45785927d3c98bb30d2935c0742714a0820049ab98279572b98b6830", func := "loop.example/weakmemory/laws.FnConflictRel", spec := "fnConflictRel", unfollowed := true, recurses := true, apart := false }
def FnConflictRelSaid : Prop := fnConflictRelRow.holds Try.pinned (OpenSpec.ofChange fnConflictRelSpec)

/-- ITS FALSE NEIGHBOUR: 'it returns false'. Refute it at one input. -/
def fnConflictRelWrong : ChangeSpec := { name := "fnConflictRel", fn := fun _ => fun
  | [d] => { results := [.lit (.bool false)], args := [d] }
  | _ => none }
def FnConflictRelWrongFalsely : Prop := fnConflictRelRow.holds Try.pinned (OpenSpec.ofChange fnConflictRelWrong)

/- THE SECOND FORM. 'bulk': how many values and letters a reading holds, each counted each time it is reached (what is shared counts as often as it is met; a slice's spare places count too). A statement '..UptoSaid' is the law's where the arguments, and the package variables that the reading takes, are together of bulk at most 1048576: NARROWER than '..Said'. Prove '..Said' where nothing that the law and all that it calls make is longer than what came in: it says more and counts as full. Else prove '..UptoSaid'. A law counts once. -/
mutual
def uptoBulk {H : Type} : DataW H → Nat
  | .lit (.string bytes) => bytes.length + 1
  | .lit _ => 1
  | .nil => 1
  | .ptr d => uptoBulk d + 1
  | .slice elems spare => uptoBulkAll elems + uptoBulkAll spare + 1
  | .agg parts => uptoBulkAll parts + 1
  | .iface _ d => uptoBulk d + 1
  | .map entries => uptoBulkEntries entries + 1
  | .held _ => 1
def uptoBulkAll {H : Type} : List (DataW H) → Nat
  | [] => 0
  | d :: r => uptoBulk d + uptoBulkAll r
def uptoBulkEntries {H : Type} : List (Lit × DataW H) → Nat
  | [] => 0
  | x :: r => uptoBulkEntry x + uptoBulkEntries r
def uptoBulkEntry {H : Type} : Lit × DataW H → Nat
  | (.string bytes, d) => bytes.length + uptoBulk d + 1
  | (_, d) => uptoBulk d + 1
 end
def uptoSmall : (H : Type) → List (DataW H) → Bool := fun _ ds => decide (uptoBulkAll ds ≤ 1048576)
def OpenSpec.upto (s : _root_.Go.ChangeSpec) : _root_.Go.OpenSpec := { _root_.Go.OpenSpec.ofChange s with cond := some uptoSmall }

/-- 'laws.FnRacesOf', WHERE WHAT IT READS IS OF BULK AT MOST 1048576: true; the input reads as it did. -/
def fnRacesOfUptoRow : OpenClaim := { program := "ythglefilfpnikaa", sum := "d19bb3ce45785927d3c98bb30d2935c0742714a0820049ab98279572b98b6830", func := "loop.example/weakmemory/laws.FnRacesOf", spec := "fnRacesOf", unfollowed := true, recurses := true, apart := false, narrowed := true }
def FnRacesOfUptoSaid : Prop := fnRacesOfUptoRow.holds Try.pinned (OpenSpec.upto fnRacesOfSpec)

/-- 'laws.FnRaceSwap', WHERE WHAT IT READS IS OF BULK AT MOST 1048576: true; the input reads as it did. -/
def fnRaceSwapUptoRow : OpenClaim := { program := "ythglefilfpnikaa", sum := "d19bb3ce45785927d3c98bb30d2935c0742714a0820049ab98279572b98b6830", func := "loop.example/weakmemory/laws.FnRaceSwap", spec := "fnRaceSwap", unfollowed := true, recurses := true, apart := false, narrowed := true }
def FnRaceSwapUptoSaid : Prop := fnRaceSwapUptoRow.holds Try.pinned (OpenSpec.upto fnRaceSwapSpec)

/-- 'laws.FnSwapStores', WHERE WHAT IT READS IS OF BULK AT MOST 1048576: true; the input reads as it did. -/
def fnSwapStoresUptoRow : OpenClaim := { program := "ythglefilfpnikaa", sum := "d19bb3ce45785927d3c98bb30d2935c0742714a0820049ab98279572b98b6830", func := "loop.example/weakmemory/laws.FnSwapStores", spec := "fnSwapStores", unfollowed := true, recurses := true, apart := false, narrowed := true }
def FnSwapStoresUptoSaid : Prop := fnSwapStoresUptoRow.holds Try.pinned (OpenSpec.upto fnSwapStoresSpec)

/-- 'laws.FnCondSame', WHERE WHAT IT READS IS OF BULK AT MOST 1048576: true; the input reads as it did. -/
def fnCondSameUptoRow : OpenClaim := { program := "ythglefilfpnikaa", sum := "d19bb3ce45785927d3c98bb30d2935c0742714a0820049ab98279572b98b6830", func := "loop.example/weakmemory/laws.FnCondSame", spec := "fnCondSame", unfollowed := true, recurses := true, apart := false, narrowed := true }
def FnCondSameUptoSaid : Prop := fnCondSameUptoRow.holds Try.pinned (OpenSpec.upto fnCondSameSpec)

/-- 'laws.FnCondText', WHERE WHAT IT READS IS OF BULK AT MOST 1048576: true; the input reads as it did. -/
def fnCondTextUptoRow : OpenClaim := { program := "ythglefilfpnikaa", sum := "d19bb3ce45785927d3c98bb30d2935c0742714a0820049ab98279572b98b6830", func := "loop.example/weakmemory/laws.FnCondText", spec := "fnCondText", inPlace := ["internal/bytealg.IndexByteString"], unfollowed := true, recurses := true, apart := false, narrowed := true }
def FnCondTextUptoSaid : Prop := fnCondTextUptoRow.holds Try.pinned (OpenSpec.upto fnCondTextSpec)

/-- 'laws.FnConflictRel', WHERE WHAT IT READS IS OF BULK AT MOST 1048576: true; the input reads as it did. -/
def fnConflictRelUptoRow : OpenClaim := { program := "ythglefilfpnikaa", sum := "d19bb3ce45785927d3c98bb30d2935c0742714a0820049ab98279572b98b6830", func := "loop.example/weakmemory/laws.FnConflictRel", spec := "fnConflictRel", unfollowed := true, recurses := true, apart := false, narrowed := true }
def FnConflictRelUptoSaid : Prop := fnConflictRelUptoRow.holds Try.pinned (OpenSpec.upto fnConflictRelSpec)

end Rows
end Go.Proofs.Ythglefilfpnikaa
