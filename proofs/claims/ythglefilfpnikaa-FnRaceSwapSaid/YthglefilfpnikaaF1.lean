/-
  The laws' own functions on programs: size, copy, equality. No condition but bounds on lengths.
-/
import Derived.Test.YthglefilfpnikaaBase
namespace Go.Proofs.Ythglefilfpnikaa
open Go.RowKit

theorem Try.infoIns : (Try.prog.info? 32).map (fun i => (i.zero, i.size, i.bytes)) = some (some (.agg #[.int .i64 0, .int .i64 0, .int .i64 0, .int .i64 0]), 4, 32) := by kernel_rfl
theorem Try.infoInsS : (Try.prog.info? 33).map (fun i => (i.zero, i.size, i.bytes)) = some (some (.slice none 0 0), 1, 24) := by kernel_rfl

abbrev OwnI (w : World) (base : Nat) (v : Value) (xs : List Ins) : Prop := Own InsE 32 w base v xs
abbrev OwnP (w : World) (base : Nat) (v : Value) (p : List (List Ins)) : Prop := Own2 InsE 33 32 w base v p
abbrev RepP (w : World) (v : Value) (p : List (List Ins)) : Prop := Rep2 InsE w v p

/-- What a program's size leaves, or -1. -/
def szP : List (List Ins) → Int → Int
  | [], l => l
  | r :: p, l => if l - r.length < 0 then -1 else szP p (l - r.length)

theorem szP_le (p : List (List Ins)) (l : Int) (h : 0 ≤ szP p l) : szP p l ≤ l ∧ ∀ r ∈ p, (r.length : Int) ≤ l := by
  induction p generalizing l with
  | nil => simp [szP]
  | cons r p ih =>
    simp only [szP] at h ⊢
    split at h
    · omega
    · rename_i hl
      rw [if_neg hl]
      obtain ⟨h1, h2⟩ := ih _ h
      refine ⟨by omega, fun q hq => ?_⟩
      rcases List.mem_cons.1 hq with rfl | hq
      · omega
      · have := h2 q hq; omega

def szPP (p : List (List Ins)) (l : Int) : Int := if l - p.length < 0 then -1 else szP p (l - p.length)

end Go.Proofs.Ythglefilfpnikaa
