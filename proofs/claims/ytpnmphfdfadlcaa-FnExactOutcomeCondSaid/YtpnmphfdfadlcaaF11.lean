/-
  SwapStores, of the program and of the reference. Condition: bounds on lengths.
-/
import Derived.Test.YtpnmphfdfadlcaaF10
namespace Go.Proofs.Ytpnmphfdfadlcaa
open Go.RowKit

/-- The first k done by f. -/
def mapPre {α : Type} (f : α → α) (k : Nat) (xs : List α) : List α := (xs.take k).map f ++ xs.drop k

section
variable {α : Type} {f : α → α} {k : Nat} {xs : List α}
theorem mapPre_zero : mapPre f 0 xs = xs := by simp [mapPre]
theorem mapPre_all (h : xs.length ≤ k) : mapPre f k xs = xs.map f := by simp [mapPre, List.take_of_length_le h, List.drop_of_length_le h]
theorem mapPre_length : (mapPre f k xs).length = xs.length := by simp [mapPre]; omega
theorem mapPre_get {x : α} (h : xs[k]? = some x) : (mapPre f k xs)[k]? = some x := by
  have hk := (List.getElem?_eq_some_iff.1 h).1
  unfold mapPre
  rw [List.getElem?_append_right (by simp; omega), List.getElem?_drop]
  simp only [List.length_map, List.length_take]
  rw [Nat.min_eq_left (by omega), Nat.sub_self, Nat.add_zero, h]
theorem mapPre_set {x : α} (h : xs[k]? = some x) : (mapPre f k xs).set k (f x) = mapPre f (k + 1) xs := by
  have hk := (List.getElem?_eq_some_iff.1 h).1
  unfold mapPre
  rw [List.set_append_right _ _ (by simp; omega), List.drop_eq_getElem_cons hk]
  simp only [List.length_map, List.length_take]
  rw [Nat.min_eq_left (by omega), Nat.sub_self, List.set_cons_zero, List.take_add_one, h]
  simp
theorem mapPre_same {x : α} (h : xs[k]? = some x) (hf : f x = x) : mapPre f (k + 1) xs = mapPre f k xs := by
  rw [← mapPre_set h, hf]
  have hg := mapPre_get (f := f) h
  apply List.ext_getElem?
  intro i
  rw [List.getElem?_set]
  by_cases e : k = i
  · subst e; rw [if_pos rfl, if_pos (by rw [mapPre_length]; exact (List.getElem?_eq_some_iff.1 h).1), hg]
  · rw [if_neg e]
end

def swapI (reg : Int) (x : Ins) : Ins := if x.op = 2 then ⟨5, x.loc, reg, x.val⟩ else x
def swapP (reg : Int) (p : List (List Ins)) : List (List Ins) := p.map fun r => r.map (swapI reg)
def swapOk (p : List (List Ins)) (reg : Int) : Bool := progValid p && inB reg 0 2 && progValid (swapP reg p)
def swapV (p : List (List Ins)) (reg : Int) : List (List Ins) := if swapOk p reg = true then swapP reg p else []

theorem grown_alloc {w w' : World} {row : Option Nat} (h : w.grownBy w' row) (o : Obj) : w.grownBy (w'.alloc o) row :=
  ⟨h.os, h.tape, h.output, by have := h.size; simp; omega, fun q hq hne => (heap_alloc_old w' o (by have := h.size; omega)).trans (h.block q hq hne)⟩

/-- What a function that makes a program, or none, hands back. -/
def RetOwn2B {α : Type} (E : El α) (T1 T2 : TypeId) (w : World) (p : List (List α)) (b : Bool) (e : Ending) (w' : World) : Prop := ∃ v, e = .returned (.tuple #[v, .bool b]) ∧ Own2 E T1 T2 w' w.heap.size v p ∧ Below w.heap.size w w'

theorem swapP_lengths (reg : Int) (p : List (List Ins)) : (swapP reg p).flatten.length = p.flatten.length := by
  unfold swapP
  induction p with
  | nil => rfl
  | cons r p ih => simp at ih ⊢; omega

theorem row_of_valid {p : List (List Ins)} (h : progValid p = true) : ∀ r ∈ p, r.length ≤ 1048576 := fun r hr => by
  have := ((valid_le h).2.2.1 r hr).1; omega

end Go.Proofs.Ytpnmphfdfadlcaa
