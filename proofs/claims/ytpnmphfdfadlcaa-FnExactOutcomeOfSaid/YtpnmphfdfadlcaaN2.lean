/-
  Where a function value says yes in a list. No condition.
-/
import Derived.Test.YtpnmphfdfadlcaaN1
namespace Go.Proofs.Ytpnmphfdfadlcaa
open Go.RowKit

/-- The place of the first element of which f says yes, or -1. -/
def IdxOf {α : Type} (f : α → Bool) (xs : List α) (q : Int) : Prop := (q = -1 ∧ ∀ x ∈ xs, f x = false) ∨ ∃ (t : Nat) (x : α), q = t ∧ xs[t]? = some x ∧ f x = true ∧ ∀ y ∈ xs.take t, f y = false

theorem none_succ {α : Type} {f : α → Bool} {xs : List α} {t : Nat} {x : α} (h : ∀ y ∈ xs.take t, f y = false) (hx : xs[t]? = some x) (hf : f x = false) : ∀ y ∈ xs.take (t + 1), f y = false := by
  intro y hy
  rw [List.take_add_one, hx] at hy
  simp at hy
  rcases hy with hy | rfl
  · exact h y hy
  · exact hf

theorem IdxOf.any {α : Type} {f : α → Bool} {xs : List α} {q : Int} (h : IdxOf f xs q) : decide (0 ≤ q) = xs.any f := by
  rcases h with ⟨rfl, h⟩ | ⟨t, x, rfl, hx, hf, -⟩
  · rw [List.any_eq_false.2 (fun x hx => by rw [h x hx]; simp)]; rfl
  · rw [List.any_eq_true.2 ⟨x, List.mem_of_getElem? hx, hf⟩]; simp

end Go.Proofs.Ytpnmphfdfadlcaa
