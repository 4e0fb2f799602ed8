/-
  The law FnExactModelText returns true for every string.
-/
import Derived.Test.YtkgkgmalgilabaaRows
import Derived.WalkKit
import Derived.WalkSpells
import Derived.WalkLawsBesides
namespace Go.Proofs.Ytkgkgmalgilabaa
open Go.RowKit

set_option maxHeartbeats 400000 in
theorem law3 (s : ByteArray) (w : World) :
    Calls Try.prog 3 #[.string s] w fun e w' => e = .returned (.bool true) ∧ w = w' := by
  go_enter Try.func3, Try.ntmps3
  go_wp2
  all_goals go_ret
  all_goals exact ⟨rfl, rfl⟩
end Go.Proofs.Ytkgkgmalgilabaa
