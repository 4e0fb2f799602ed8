/-
  Plain: a valid program has few events.
-/
import Derived.Test.YtpnmphfdfadlcaaE1
namespace Go.Proofs.Ytpnmphfdfadlcaa

theorem evOf_len (t i : Nat) (x : Ins) : (evOf t i x).length = if notFence x = true then 1 else 0 := by
  unfold evOf notFence
  by_cases h : x.op = 4
  · simp [h]
  · simp [h]
theorem evRow_len (t : Nat) (r : List Ins) : ∀ k, k ≤ r.length → (evRow t r k).length = (r.take k).countP notFence := by
  intro k
  induction k with
  | zero => intro _; simp [evRow]
  | succ k ih =>
    intro hk
    obtain ⟨x, hx⟩ := get_of_lt (xs := r) (k := k) hk
    rw [evRow_succ hx, List.length_append, ih (by omega), countP_take_succ _ hx, evOf_len]
theorem evTo_len (p : List (List Ins)) : ∀ j, j ≤ p.length → (evTo p j).length = cnt notFence (p.take j) := by
  intro j
  induction j with
  | zero => intro _; simp [evTo, cnt]
  | succ j ih =>
    intro hj
    obtain ⟨r, hr⟩ := get_of_lt (xs := p) (k := j) hj
    rw [evTo_succ hr, List.length_append, ih (by omega), cnt_take_succ _ hr, evRow_len j r r.length (Nat.le_refl _), List.take_length]
theorem evAll_le {p : List (List Ins)} (h : progValid p = true) : (evAll p).length ≤ 15 := by
  obtain ⟨-, -, -, h4, -⟩ := valid_le h
  unfold evAll
  rw [List.length_append, evHead_length, evTo_len p p.length (Nat.le_refl _), List.take_length]
  omega

end Go.Proofs.Ytpnmphfdfadlcaa
