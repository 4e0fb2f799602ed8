/-
  The arguments that are drawn for CondSame. Condition: none but the bytes' own.
-/
import Derived.Test.YtpnmphfdfadlcaaD5
import Derived.Deep.RegionHeld3
import Derived.Deep.DeepCutAuto
namespace Go.Proofs.Ytpnmphfdfadlcaa
open Go.RowKit

/-- Two conditions that were drawn. -/
def RetTwo (w : World) (e : Ending) (w' : World) : Prop := ∃ (o t q x : Int) (s : Slc) (ks : List Cd) (o' t' q' x' : Int) (s' : Slc) (ks' : List Cd),
  e = .returned (.tuple #[.agg #[.int .i64 o, .int .i64 t, .int .i64 q, .int .i64 x, .slice s.a s.n s.cap], .agg #[.int .i64 o', .int .i64 t', .int .i64 q', .int .i64 x', .slice s'.a s'.n s'.cap]]) ∧ RepK 0 w' s ks ∧ RepK 0 w' s' ks' ∧ Below w.heap.size w w'

theorem below_of_outside {b : Nat} {w w' : World} {B : Nat} (h : Outside b (b + 1) w w') (hB : B ≤ b) (hB2 : B ≤ w.heap.size) : Below B w w' := h.below hB hB2

end Go.Proofs.Ytpnmphfdfadlcaa
