/-
  The laws' own functions on conditions: equality, size, copy. No condition but bounds on sizes.
-/
import Derived.Test.YthglefilfpnikaaT1
namespace Go.Proofs.Ythglefilfpnikaa
open Go.RowKit

theorem Try.infoCond : (Try.prog.info? 44).map (fun i => (i.zero, i.size, i.bytes)) = some (some (.agg #[.int .i64 0, .int .i64 0, .int .i64 0, .int .i64 0, .slice none 0 0]), 5, 56) := by kernel_rfl

theorem some_bool (p : Prop) : ∃ b : Bool, b = true ↔ p := by
  by_cases h : p
  · exact ⟨true, by simp [h]⟩
  · exact ⟨false, by simp [h]⟩

/-- What the size of the parts leaves, or -1. -/
def szK (ks : List Cd) (l : Int) : Int := if l - descs ks < 0 then -1 else l - descs ks

theorem descs_rest (ks : List Cd) {k : Nat} (h : ks.length ≤ k) : descs (ks.take k) = descs ks := by rw [List.take_of_length_le h]

end Go.Proofs.Ythglefilfpnikaa
