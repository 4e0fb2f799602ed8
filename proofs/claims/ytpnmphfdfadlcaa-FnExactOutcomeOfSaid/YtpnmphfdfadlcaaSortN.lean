/-
  slices.Sort on numbers that a call owns. Condition: a bound on lengths.
-/
import Derived.Test.YtpnmphfdfadlcaaV7
import Derived.Test.YtpnmphfdfadlcaaShSort
import Derived.Shelf.Slices.In.SortNone
import Derived.Sort.OwnSortedInts
namespace Go.Proofs.Ytpnmphfdfadlcaa
open Go.RowKit Go.Shelf Go.Sort

def sortL (xs : List Int) : List Int := xs.mergeSort fun x y => decide (x ≤ y)
theorem intE_map (xs : List Int) : xs.flatMap IntE.c = xs.map (Value.int .i64) := by
  induction xs with
  | nil => rfl
  | cons x xs ih => rw [List.flatMap_cons, ih]; rfl

theorem SortN_any (v : Value) (xs : List Int) (w : World) (base : Nat) (h : Own IntE 3 w base v xs) (hl : xs.length ≤ 1048576) :
    Calls Try.prog 203 #[v] w fun e w' => e = .returned (.tuple #[]) ∧ Own IntE 3 w' base v (sortL xs) ∧ w.grownBy w' v.ownBlock := by
  rcases h.2 with ⟨rfl, h0⟩ | ⟨g, cap, cur, rfl, hbase, hb, h1, h2, h3, h4⟩
  · obtain rfl : xs = [] := List.eq_nil_of_length_eq_zero h0
    have hc := Any.slices_Sort_int_none Try.lays189 none 0 w
    change Calls Try.prog 203 _ _ _ at hc
    exact hc.mono fun _ _ ⟨a, b⟩ => by subst b; exact ⟨a, by simpa [sortL] using h, World.grownBy.refl _ _⟩
  · have hH : Holds (Value.int .i64) w g 0 xs.toArray := holds_of_blockI hb (by rw [← intE_map]; simpa [IntE] using h4)
    have hc := Any.slices_Sort_int Try.lays189 g 0 cap xs w hH (Array.getElem?_eq_some_iff.1 hb).1 (by omega)
    change Calls Try.prog 203 _ _ _ at hc
    refine hc.mono fun _ w' ⟨a, n, os, b⟩ => ?_
    subst b
    have hlen : (xs.mergeSort fun x y => decide (x ≤ y)).length = xs.length := List.length_mergeSort _
    refine ⟨a, ?_, grownBy_sortedI _⟩
    have h5 := ownsRow_sortedI (n := n) (os := os) (ts := xs.mergeSort fun x y => decide (x ≤ y)) hlen hbase hb h1 h2 (by simpa [IntE] using h3)
    unfold Own sortL
    rw [intE_map, hlen]
    exact h5

end Go.Proofs.Ytpnmphfdfadlcaa
