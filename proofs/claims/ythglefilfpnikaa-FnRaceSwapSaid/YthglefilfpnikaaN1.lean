/-
  The laws' own functions on lists of numbers. No condition but bounds on lengths.
-/
import Derived.Test.YthglefilfpnikaaF2
namespace Go.Proofs.Ythglefilfpnikaa
open Go.RowKit

theorem Try.infoInt : (Try.prog.info? 3).map (fun i => (i.zero, i.size, i.bytes)) = some (some (.int .i64 0), 1, 8) := by kernel_rfl

abbrev OwnN (w : World) (base : Nat) (v : Value) (xs : List Int) : Prop := Own IntE 3 w base v xs

theorem Own.int {T : TypeId} {w : World} {base g n cap : Nat} {xs : List Int} (h : Own IntE T w base (.slice (some ⟨g, 0, none⟩) n cap) xs) {k : Nat} {x : Int} (hx : xs[k]? = some x) :
    g < w.heap.size ∧ w.cell? ⟨g, k, none⟩ = some (.int .i64 x) ∧ ∀ j, w.frozen? ⟨g, j, none⟩ = false := by
  have := h.cell hx (j := 0) rfl
  simp only [IntE, Nat.mul_one, Nat.add_zero] at this
  exact ⟨(World.ownsRow.lt h g rfl).2, this, fun j => h.frozen j⟩

theorem Own.setInt {T : TypeId} {w : World} {base g n cap : Nat} {xs : List Int} (h : Own IntE T w base (.slice (some ⟨g, 0, none⟩) n cap) xs) {k : Nat} {z : Int} (hz : xs[k]? = some z) (x : Int) :
    Own IntE T (w.setCell ⟨g, k, none⟩ (.int .i64 x)) base (.slice (some ⟨g, 0, none⟩) n cap) (xs.set k x) := by
  have h0 := h.set (i := k) (j := 0) x (u := .int .i64 x) (by decide) hz rfl
  simp only [IntE, Nat.mul_one, Nat.add_zero] at h0
  exact h0

/-- The number m itself. -/
def markN (m : Int) : Int := m
/-- So many numbers, numbered from m on. -/
def marksN : Nat → Int → List Int
  | 0, _ => []
  | n + 1, m => markN m :: marksN n (m + 1)

theorem marksN_length (n : Nat) (m : Int) : (marksN n m).length = n := by
  induction n generalizing m with
  | zero => rfl
  | succ n ih => simp [marksN, ih]

theorem marksN_get (n : Nat) (m : Int) {k : Nat} (h : k < n) : (marksN n m)[k]? = some (markN (m + k)) := by
  induction n generalizing m k with
  | zero => omega
  | succ n ih =>
    cases k with
    | zero => simp [marksN]
    | succ k => simp only [marksN, List.getElem?_cons_succ]; rw [ih _ (by omega)]; congr 2; omega

/-- The first k marked, the rest as they were. -/
theorem marksN_step (xs : List Int) (m : Int) {k : Nat} (hk : k < xs.length) : ((marksN k m) ++ xs.drop k).set k (markN (m + k)) = marksN (k + 1) m ++ xs.drop (k + 1) := by
  have h1 : marksN (k + 1) m = marksN k m ++ [markN (m + k)] := by
    apply List.ext_getElem?
    intro i
    by_cases hi : i < k
    · rw [marksN_get _ _ (by omega), List.getElem?_append_left (by rw [marksN_length]; exact hi), marksN_get _ _ hi]
    · by_cases hi2 : i = k
      · subst hi2
        rw [marksN_get _ _ (by omega), List.getElem?_append_right (by rw [marksN_length]; omega), marksN_length]; simp
      · rw [List.getElem?_eq_none (by rw [marksN_length]; omega), List.getElem?_eq_none (by simp [marksN_length]; omega)]
  rw [List.set_append_right _ _ (by rw [marksN_length]; omega), marksN_length, Nat.sub_self, List.drop_eq_getElem_cons hk, List.set_cons_zero, h1]
  simp

end Go.Proofs.Ythglefilfpnikaa
