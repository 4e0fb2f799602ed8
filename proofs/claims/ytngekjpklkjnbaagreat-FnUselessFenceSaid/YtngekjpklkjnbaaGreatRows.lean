/-
  No cell of these rows narrows 'for every input' (looked for: loops, veiled, ifaces, maps, wideKeys, modest, calm, conditions, laid).
  DERIVED. THE GIVEN ROWS OF THIS SEAT. 5 by the template 'for every input the law returns true; each argument reads behind the call as it read before'; 0 by the template 'total and deterministic' (their statements: YtngekjpklkjnbaaGreatTotals.lean).
  GIVEN WITH THE SEED: the statements are not yours to turn. If you find one false, say at which input.
  Laid BY PROGRAM, IN A SANDBOX (cutbox-rows.mjs): the forced cells as the released guide's own fill.sh prints them over the translation 17b3a8605f9b2960… (all of the seat's roots in one cut). By AI agents, Wed Nov 11 2026. No macro, syntax, notation, axiom, sorry.
-/
import Derived.Test.YtngekjpklkjnbaaGreatChecked
import GoSem.Claim
import GoSem.ClaimJoined
import GoSem.ClaimMapViews
import Derived.JoinedTies
import Derived.KernelRfl
namespace Go.Proofs.YtngekjpklkjnbaaGreat
/- THE CELL 'sum', in the pinned program and in every row, IS THE sha256 OF THE DUMP (.gsa) THAT YtngekjpklkjnbaaGreatProg.lean LOADS. Nothing in Lean hashes anything: it is a label: what it is worth is what the hold of that sum in a sandbox is worth. -/
noncomputable def Tryz.pinned : Pinned := { name := "ytngekjpklkjnbaagreat", sum := "17b3a8605f9b296005b7fe8ff344252158efea8fbbe09d6603d63b3c757ad6fd", checked := Tryz.checked }
namespace Rows
def none {H : Type} : Left H := { results := [], args := [] }

/-- 'laws.FnExactUselessFence': WHATEVER THE INPUT: true; the input reads as it did. -/
def fnExactUselessFenceSpec : ChangeSpec := { name := "fnExactUselessFence", fn := fun _ => fun
  | [d1, d2] => { results := [.lit (.bool true)], args := [d1, d2] }
  | _ => none }
def fnExactUselessFenceRow : OpenClaim := { program := "ytngekjpklkjnbaagreat", sum := "17b3a8605f9b296005b7fe8ff344252158efea8fbbe09d6603d63b3c757ad6fd", func := "loop.example/weakmemory/laws.FnExactUselessFence", spec := "fnExactUselessFence", unfollowed := true, recurses := true, apart := false }
def FnExactUselessFenceSaid : Prop := fnExactUselessFenceRow.holds Tryz.pinned (OpenSpec.ofChange fnExactUselessFenceSpec)

/-- ITS FALSE NEIGHBOUR: 'it returns false'. Refute it at one input. -/
def fnExactUselessFenceWrong : ChangeSpec := { name := "fnExactUselessFence", fn := fun _ => fun
  | [d1, d2] => { results := [.lit (.bool false)], args := [d1, d2] }
  | _ => none }
def FnExactUselessFenceWrongFalsely : Prop := fnExactUselessFenceRow.holds Tryz.pinned (OpenSpec.ofChange fnExactUselessFenceWrong)

/-- 'laws.FnExactLeastFences': WHATEVER THE INPUT: true; the input reads as it did. -/
def fnExactLeastFencesSpec : ChangeSpec := { name := "fnExactLeastFences", fn := fun _ => fun
  | [d1, d2] => { results := [.lit (.bool true)], args := [d1, d2] }
  | _ => none }
def fnExactLeastFencesRow : OpenClaim := { program := "ytngekjpklkjnbaagreat", sum := "17b3a8605f9b296005b7fe8ff344252158efea8fbbe09d6603d63b3c757ad6fd", func := "loop.example/weakmemory/laws.FnExactLeastFences", spec := "fnExactLeastFences", inPlace := ["slices.overlaps[loop.example/weakmemory/impl.Instr]"], unfollowed := true, recurses := true, apart := false }
def FnExactLeastFencesSaid : Prop := fnExactLeastFencesRow.holds Tryz.pinned (OpenSpec.ofChange fnExactLeastFencesSpec)

/-- ITS FALSE NEIGHBOUR: 'it returns false'. Refute it at one input. -/
def fnExactLeastFencesWrong : ChangeSpec := { name := "fnExactLeastFences", fn := fun _ => fun
  | [d1, d2] => { results := [.lit (.bool false)], args := [d1, d2] }
  | _ => none }
def FnExactLeastFencesWrongFalsely : Prop := fnExactLeastFencesRow.holds Tryz.pinned (OpenSpec.ofChange fnExactLeastFencesWrong)

/-- 'laws.FnUselessFence': WHATEVER THE INPUT: true; the input reads as it did. -/
def fnUselessFenceSpec : ChangeSpec := { name := "fnUselessFence", fn := fun _ => fun
  | [d] => { results := [.lit (.bool true)], args := [d] }
  | _ => none }
def fnUselessFenceRow : OpenClaim := { program := "ytngekjpklkjnbaagreat", sum := "17b3a8605f9b296005b7fe8ff344252158efea8fbbe09d6603d63b3c757ad6fd", func := "loop.example/weakmemory/laws.FnUselessFence", spec := "fnUselessFence", unfollowed := true, recurses := true, apart := false }
def FnUselessFenceSaid : Prop := fnUselessFenceRow.holds Tryz.pinned (OpenSpec.ofChange fnUselessFenceSpec)

/-- ITS FALSE NEIGHBOUR: 'it returns false'. Refute it at one input. -/
def fnUselessFenceWrong : ChangeSpec := { name := "fnUselessFence", fn := fun _ => fun
  | [d] => { results := [.lit (.bool false)], args := [d] }
  | _ => none }
def FnUselessFenceWrongFalsely : Prop := fnUselessFenceRow.holds Tryz.pinned (OpenSpec.ofChange fnUselessFenceWrong)

/-- 'laws.FnLeastFences': WHATEVER THE INPUT: true; the input reads as it did. -/
def fnLeastFencesSpec : ChangeSpec := { name := "fnLeastFences", fn := fun _ => fun
  | [d] => { results := [.lit (.bool true)], args := [d] }
  | _ => none }
def fnLeastFencesRow : OpenClaim := { program := "ytngekjpklkjnbaagreat", sum := "17b3a8605f9b296005b7fe8ff344252158efea8fbbe09d6603d63b3c757ad6fd", func := "loop.example/weakmemory/laws.FnLeastFences", spec := "fnLeastFences", inPlace := ["slices.overlaps[loop.example/weakmemory/impl.Instr]"], unfollowed := true, recurses := true, apart := false }
def FnLeastFencesSaid : Prop := fnLeastFencesRow.holds Tryz.pinned (OpenSpec.ofChange fnLeastFencesSpec)

/-- ITS FALSE NEIGHBOUR: 'it returns false'. Refute it at one input. -/
def fnLeastFencesWrong : ChangeSpec := { name := "fnLeastFences", fn := fun _ => fun
  | [d] => { results := [.lit (.bool false)], args := [d] }
  | _ => none }
def FnLeastFencesWrongFalsely : Prop := fnLeastFencesRow.holds Tryz.pinned (OpenSpec.ofChange fnLeastFencesWrong)

/-- 'laws.FnFewerFences': WHATEVER THE INPUT: true; the input reads as it did. -/
def fnFewerFencesSpec : ChangeSpec := { name := "fnFewerFences", fn := fun _ => fun
  | [d] => { results := [.lit (.bool true)], args := [d] }
  | _ => none }
def fnFewerFencesRow : OpenClaim := { program := "ytngekjpklkjnbaagreat", sum := "17b3a8605f9b296005b7fe8ff344252158efea8fbbe09d6603d63b3c757ad6fd", func := "loop.example/weakmemory/laws.FnFewerFences", spec := "fnFewerFences", inPlace := ["slices.overlaps[loop.example/weakmemory/impl.Instr]"], unfollowed := true, recurses := true, apart := false }
def FnFewerFencesSaid : Prop := fnFewerFencesRow.holds Tryz.pinned (OpenSpec.ofChange fnFewerFencesSpec)

/-- ITS FALSE NEIGHBOUR: 'it returns false'. Refute it at one input. -/
def fnFewerFencesWrong : ChangeSpec := { name := "fnFewerFences", fn := fun _ => fun
  | [d] => { results := [.lit (.bool false)], args := [d] }
  | _ => none }
def FnFewerFencesWrongFalsely : Prop := fnFewerFencesRow.holds Tryz.pinned (OpenSpec.ofChange fnFewerFencesWrong)

/- THE SECOND FORM. 'bulk': how many values and letters a reading holds, each counted each time it is reached (what is shared counts as often as it is met; a slice's spare places count too). A statement '..UptoSaid' is the law's where the arguments, and the package variables that the reading takes, are together of bulk at most 1048576: NARROWER than '..Said'. Prove '..Said' where nothing that the law and all that it calls make is longer than what came in: it says more and counts as full. Else prove '..UptoSaid'. A law counts once. -/
mutual
def uptoBulk {H : Type} : DataW H → Nat
  | .lit (.string bytes) => bytes.length + 1
  | .lit _ => 1
  | .nil => 1
  | .ptr d => uptoBulk d + 1
  | .slice elems spare => uptoBulkAll elems + uptoBulkAll spare + 1
  | .agg parts => uptoBulkAll parts + 1
  | .iface _ d => uptoBulk d + 1
  | .map entries => uptoBulkEntries entries + 1
  | .held _ => 1
def uptoBulkAll {H : Type} : List (DataW H) → Nat
  | [] => 0
  | d :: r => uptoBulk d + uptoBulkAll r
def uptoBulkEntries {H : Type} : List (Lit × DataW H) → Nat
  | [] => 0
  | x :: r => uptoBulkEntry x + uptoBulkEntries r
def uptoBulkEntry {H : Type} : Lit × DataW H → Nat
  | (.string bytes, d) => bytes.length + uptoBulk d + 1
  | (_, d) => uptoBulk d + 1
 end
def uptoSmall : (H : Type) → List (DataW H) → Bool := fun _ ds => decide (uptoBulkAll ds ≤ 1048576)
def OpenSpec.upto (s : _root_.Go.ChangeSpec) : _root_.Go.OpenSpec := { _root_.Go.OpenSpec.ofChange s with cond := some uptoSmall }

/-- 'laws.FnExactUselessFence', WHERE WHAT IT READS IS OF BULK AT MOST 1048576: true; the input reads as it did. -/
def fnExactUselessFenceUptoRow : OpenClaim := { program := "ytngekjpklkjnbaagreat", sum := "17b3a8605f9b296005b7fe8ff344252158efea8fbbe09d6603d63b3c757ad6fd", func := "loop.example/weakmemory/laws.FnExactUselessFence", spec := "fnExactUselessFence", unfollowed := true, recurses := true, apart := false, narrowed := true }
def FnExactUselessFenceUptoSaid : Prop := fnExactUselessFenceUptoRow.holds Tryz.pinned (OpenSpec.upto fnExactUselessFenceSpec)

/-- 'laws.FnExactLeastFences', WHERE WHAT IT READS IS OF BULK AT MOST 1048576: true; the input reads as it did. -/
def fnExactLeastFencesUptoRow : OpenClaim := { program := "ytngekjpklkjnbaagreat", sum := "17b3a8605f9b296005b7fe8ff344252158efea8fbbe09d6603d63b3c757ad6fd", func := "loop.example/weakmemory/laws.FnExactLeastFences", spec := "fnExactLeastFences", inPlace := ["slices.overlaps[loop.example/weakmemory/impl.Instr]"], unfollowed := true, recurses := true, apart := false, narrowed := true }
def FnExactLeastFencesUptoSaid : Prop := fnExactLeastFencesUptoRow.holds Tryz.pinned (OpenSpec.upto fnExactLeastFencesSpec)

/-- 'laws.FnUselessFence', WHERE WHAT IT READS IS OF BULK AT MOST 1048576: true; the input reads as it did. -/
def fnUselessFenceUptoRow : OpenClaim := { program := "ytngekjpklkjnbaagreat", sum := "17b3a8605f9b296005b7fe8ff344252158efea8fbbe09d6603d63b3c757ad6fd", func := "loop.example/weakmemory/laws.FnUselessFence", spec := "fnUselessFence", unfollowed := true, recurses := true, apart := false, narrowed := true }
def FnUselessFenceUptoSaid : Prop := fnUselessFenceUptoRow.holds Tryz.pinned (OpenSpec.upto fnUselessFenceSpec)

/-- 'laws.FnLeastFences', WHERE WHAT IT READS IS OF BULK AT MOST 1048576: true; the input reads as it did. -/
def fnLeastFencesUptoRow : OpenClaim := { program := "ytngekjpklkjnbaagreat", sum := "17b3a8605f9b296005b7fe8ff344252158efea8fbbe09d6603d63b3c757ad6fd", func := "loop.example/weakmemory/laws.FnLeastFences", spec := "fnLeastFences", inPlace := ["slices.overlaps[loop.example/weakmemory/impl.Instr]"], unfollowed := true, recurses := true, apart := false, narrowed := true }
def FnLeastFencesUptoSaid : Prop := fnLeastFencesUptoRow.holds Tryz.pinned (OpenSpec.upto fnLeastFencesSpec)

/-- 'laws.FnFewerFences', WHERE WHAT IT READS IS OF BULK AT MOST 1048576: true; the input reads as it did. -/
def fnFewerFencesUptoRow : OpenClaim := { program := "ytngekjpklkjnbaagreat", sum := "17b3a8605f9b296005b7fe8ff344252158efea8fbbe09d6603d63b3c757ad6fd", func := "loop.example/weakmemory/laws.FnFewerFences", spec := "fnFewerFences", inPlace := ["slices.overlaps[loop.example/weakmemory/impl.Instr]"], unfollowed := true, recurses := true, apart := false, narrowed := true }
def FnFewerFencesUptoSaid : Prop := fnFewerFencesUptoRow.holds Tryz.pinned (OpenSpec.upto fnFewerFencesSpec)

end Rows
end Go.Proofs.YtngekjpklkjnbaaGreat
