/-
  Union, meet and composition of relations, in the program and in the reference. Condition: few elements.
-/
import Derived.Test.YtpnmphfdfadlcaaB2
import Derived.Test.YtpnmphfdfadlcaaE1
import Derived.Test.YtpnmphfdfadlcaaBase2
import Derived.Deep.RegionHeld3
namespace Go.Proofs.Ytpnmphfdfadlcaa
open Go.RowKit

theorem take_rel (n k : Nat) (f : Nat → Nat → Bool) (h : k < n) : (relOf n f).take (k + 1) = (relOf n f).take k ++ [bitsTo (f k) n] := by
  rw [List.take_add_one, relOf_get h]; rfl


end Go.Proofs.Ytpnmphfdfadlcaa
