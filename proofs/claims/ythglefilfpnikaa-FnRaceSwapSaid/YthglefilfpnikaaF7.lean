/-
  The gaps of a program, as the program and the reference find them.
-/
import Derived.Test.YthglefilfpnikaaF6
import Derived.Test.YthglefilfpnikaaP2
namespace Go.Proofs.Ythglefilfpnikaa
open Go.RowKit

theorem Try.infoGap : (Try.prog.info? 28).map (fun i => (i.zero, i.size, i.bytes)) = some (some (.agg #[.int .i64 0, .int .i64 0]), 2, 16) := by kernel_rfl
abbrev OwnG (w : World) (base : Nat) (v : Value) (xs : List Gp) : Prop := Own GapE 28 w base v xs

end Go.Proofs.Ythglefilfpnikaa
