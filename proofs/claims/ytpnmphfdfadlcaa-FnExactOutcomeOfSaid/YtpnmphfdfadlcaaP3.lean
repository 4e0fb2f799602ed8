/-
  Plain: what the size that is left says; worlds one behind the other.
-/
import Derived.Test.YtpnmphfdfadlcaaF2
namespace Go.Proofs.Ytpnmphfdfadlcaa
open Go.RowKit

theorem szP_eq (p : List (List Ins)) (l : Int) (h : 0 ≤ szP p l) : szP p l = l - p.flatten.length ∨ p = [] := by
  induction p generalizing l with
  | nil => exact .inr rfl
  | cons r p ih =>
    left
    simp only [szP] at h ⊢
    split at h
    · omega
    · rename_i hl
      rw [if_neg hl]
      rcases ih _ h with h1 | h1
      · rw [h1]; simp; omega
      · subst h1; simp [szP]

theorem szPP_le (p : List (List Ins)) (h : ¬ szPP p 1048576 < 0) : p.length ≤ 1048576 ∧ p.flatten.length ≤ 1048576 ∧ ∀ r ∈ p, r.length ≤ 1048576 := by
  unfold szPP at h
  split at h
  · omega
  · rename_i hl
    have h1 := szP_le p _ (Int.not_lt.1 h)
    refine ⟨by omega, ?_, fun r hr => by have := h1.2 r hr; omega⟩
    rcases szP_eq p _ (Int.not_lt.1 h) with h2 | h2
    · rw [h2] at h; omega
    · subst h2; simp

theorem sumN_flatten (p : List (List Ins)) : sumN (p.map List.length) = p.flatten.length := by
  induction p with
  | nil => rfl
  | cons r p ih => simp [sumN, ih]

theorem Below.next {a b c : World} (h : Below a.heap.size a b) (k : Below b.heap.size b c) : Below a.heap.size a c := h.trans (k.mono h.size)

theorem Own.lo {α : Type} {E : El α} {T : TypeId} {w : World} {base : Nat} {v : Value} {xs : List α} (h : Own E T w base v xs) : ∀ q, v.ownBlock = some q → base ≤ q ∧ q < w.heap.size := World.ownsRow.lt h

/-- A row that a call made is written: what lay below is as it was. -/
theorem below_row {w w' : World} {row : Option Nat} (hg : w.grownBy w' row) {B : Nat} (hB : B ≤ w.heap.size) (hr : ∀ k, row = some k → B ≤ k) : Below B w w' := (Below.refl B w).grown hg hB hr

end Go.Proofs.Ytpnmphfdfadlcaa
