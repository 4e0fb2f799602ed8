/-
  Relations as rows of bits; conflicts. Plain.
-/
import Derived.Test.YtpnmphfdfadlcaaE1
import Derived.Test.YtpnmphfdfadlcaaP4
namespace Go.Proofs.Ytpnmphfdfadlcaa
open Go.RowKit

/-- The row of those k below n for which f holds. -/
def bitsTo (f : Nat → Bool) : Nat → Int
  | 0 => 0
  | k + 1 => if f k = true then bits .or .i64 (bitsTo f k) (wrap64 ((2 : Int) ^ k)) else bitsTo f k

def relOf (n : Nat) (f : Nat → Nat → Bool) : List Int := (List.range n).map fun i => bitsTo (f i) n

theorem relOf_length (n : Nat) (f : Nat → Nat → Bool) : (relOf n f).length = n := by simp [relOf]
theorem relOf_get {n : Nat} {f : Nat → Nat → Bool} {i : Nat} (h : i < n) : (relOf n f)[i]? = some (bitsTo (f i) n) := by
  simp [relOf, h]

/-- Do the events at i and k conflict? -/
def confB (L : List Ev) (i k : Nat) : Bool := match L[i]?, L[k]? with
  | some a, some b => decide (0 ≤ a.t) && (decide (0 ≤ b.t) && ((a.t != b.t) && ((a.l == b.l) && (a.w || b.w))))
  | _, _ => false

theorem confB_eq {L : List Ev} {i k : Nat} {a b : Ev} (hi : L[i]? = some a) (hk : L[k]? = some b) : confB L i k = (decide (0 ≤ a.t) && (decide (0 ≤ b.t) && ((a.t != b.t) && ((a.l == b.l) && (a.w || b.w))))) := by
  unfold confB; rw [hi, hk]

def conflicts (p : List (List Ins)) : List Int := relOf (evAll p).length (confB (evAll p))
def conflictV (p : List (List Ins)) : List Int := if progValid p = true then conflicts p else []

theorem mem_evOf {t i : Nat} {x : Ins} {e : Ev} (h : e ∈ evOf t i x) : e = ⟨t, i, x.loc, isRop x.op, isWop x.op⟩ ∧ x.op ≠ 4 := by
  unfold evOf at h
  split at h
  · simp at h
  · simp at h; exact ⟨h, by assumption⟩

/-- An event is an initial write, or it is of an instruction. -/
theorem mem_evAll {p : List (List Ins)} {e : Ev} (h : e ∈ evAll p) : (e.t = -1) ∨ ∃ (t i : Nat) (r : List Ins) (x : Ins), p[t]? = some r ∧ r[i]? = some x ∧ e = ⟨t, i, x.loc, isRop x.op, isWop x.op⟩ ∧ x.op ≠ 4 := by
  unfold evAll at h
  rcases List.mem_append.1 h with h | h
  · left
    simp only [evHead, List.mem_map, List.mem_range] at h
    obtain ⟨l, _, rfl⟩ := h
    rfl
  · right
    unfold evTo at h
    rw [List.mem_flatMap] at h
    obtain ⟨t, ht, h⟩ := h
    cases hr : p[t]? with
    | none => rw [hr] at h; simp at h
    | some r =>
      rw [hr] at h
      simp only [evRow, List.mem_flatMap, List.mem_range] at h
      obtain ⟨i, hi, h⟩ := h
      obtain ⟨x, hx⟩ := get_of_lt (xs := r) (k := i) hi
      rw [hx] at h
      obtain ⟨rfl, hx4⟩ := mem_evOf h
      exact ⟨t, i, r, x, hr, hx, rfl, hx4⟩

theorem conflictR_ev {o l o2 l2 : Int} (h : o ≠ 4) (h2 : o2 ≠ 4) : conflictR o l o2 l2 = ((l == l2) && (isWop o || isWop o2)) := by
  have g1 : (o != 4) = true := by simp [h]
  have g2 : (o2 != 4) = true := by simp [h2]
  unfold conflictR
  rw [g1, g2]; rfl

end Go.Proofs.Ytpnmphfdfadlcaa
