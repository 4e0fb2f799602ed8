/-
  The laws' own functions on programs: copy, mark, held. No condition but bounds on lengths.
-/
import Derived.Test.YthglefilfpnikaaF1
namespace Go.Proofs.Ythglefilfpnikaa
open Go.RowKit

/-- The instruction whose fields are numbered from m on. -/
def markI (m : Int) : Ins := ⟨m, m + 1, m + 1 + 1, m + 1 + 1 + 1⟩
/-- So many instructions, numbered from m on. -/
def marksI : Nat → Int → List Ins
  | 0, _ => []
  | n + 1, m => markI m :: marksI n (m + 4)

theorem marksI_length (n : Nat) (m : Int) : (marksI n m).length = n := by
  induction n generalizing m with
  | zero => rfl
  | succ n ih => simp [marksI, ih]

theorem marksI_get (n : Nat) (m : Int) {k : Nat} (h : k < n) : (marksI n m)[k]? = some (markI (m + 4 * k)) := by
  induction n generalizing m k with
  | zero => omega
  | succ n ih =>
    cases k with
    | zero => simp [marksI]
    | succ k => simp only [marksI, List.getElem?_cons_succ]; rw [ih _ (by omega)]; congr 2; omega

/-- The first k marked, the rest as they were. -/
theorem marks_step (xs : List Ins) (m : Int) {k : Nat} (hk : k < xs.length) : ((marksI k m) ++ xs.drop k).set k (markI (m + 4 * k)) = marksI (k + 1) m ++ xs.drop (k + 1) := by
  have h1 : marksI (k + 1) m = marksI k m ++ [markI (m + 4 * k)] := by
    apply List.ext_getElem?
    intro i
    by_cases hi : i < k
    · rw [marksI_get _ _ (by omega), List.getElem?_append_left (by rw [marksI_length]; exact hi), marksI_get _ _ hi]
    · by_cases hi2 : i = k
      · subst hi2
        rw [marksI_get _ _ (by omega), List.getElem?_append_right (by rw [marksI_length]; omega), marksI_length]; simp
      · rw [List.getElem?_eq_none (by rw [marksI_length]; omega), List.getElem?_eq_none (by simp [marksI_length]; omega)]
  rw [List.set_append_right _ _ (by rw [marksI_length]; omega), marksI_length, Nat.sub_self, List.drop_eq_getElem_cons hk, List.set_cons_zero, h1]
  simp

/-- Programs whose instructions are numbered from m on. -/
def marksP : List Nat → Int → List (List Ins)
  | [], _ => []
  | n :: ns, m => marksI n m :: marksP ns (m + 4 * n)

def sumN : List Nat → Nat
  | [] => 0
  | n :: ns => n + sumN ns

theorem sumN_take_succ (ns : List Nat) {k n : Nat} (h : ns[k]? = some n) : sumN (ns.take (k + 1)) = sumN (ns.take k) + n := by
  induction ns generalizing k with
  | nil => simp at h
  | cons x ns ih =>
    cases k with
    | zero => simp at h; simp [sumN, h]
    | succ k => simp only [List.take_succ_cons, sumN]; rw [ih (by simpa using h)]; omega

theorem sumN_take_le (ns : List Nat) (k : Nat) : sumN (ns.take k) ≤ sumN ns := by
  induction ns generalizing k with
  | nil => simp [sumN]
  | cons x ns ih => cases k with
    | zero => simp [sumN]
    | succ k => simp only [List.take_succ_cons, sumN]; have := ih k; omega

theorem le_sumN {ns : List Nat} {k n : Nat} (h : ns[k]? = some n) : sumN (ns.take k) + n ≤ sumN ns := by
  rw [← sumN_take_succ ns h]; exact sumN_take_le ns _

theorem marksP_length (ns : List Nat) (m : Int) : (marksP ns m).length = ns.length := by
  induction ns generalizing m with
  | nil => rfl
  | cons n ns ih => simp [marksP, ih]

theorem marksP_get (ns : List Nat) (m : Int) {k n : Nat} (h : ns[k]? = some n) : (marksP ns m)[k]? = some (marksI n (m + 4 * sumN (ns.take k))) := by
  induction ns generalizing m k with
  | nil => simp at h
  | cons x ns ih =>
    cases k with
    | zero => simp at h; simp [marksP, sumN, h]
    | succ k => simp only [marksP, List.getElem?_cons_succ]; rw [ih _ (by simpa using h)]; simp only [List.take_succ_cons, sumN]; congr 2; omega

/-- The first k rows marked. -/
theorem marksP_step (p : List (List Ins)) (m : Int) {k : Nat} {r : List Ins} (hr : p[k]? = some r) :
    (marksP ((p.map List.length).take k) m ++ p.drop k).set k (marksI r.length (m + 4 * sumN ((p.map List.length).take k))) = marksP ((p.map List.length).take (k + 1)) m ++ p.drop (k + 1) := by
  have hk := (List.getElem?_eq_some_iff.1 hr).1
  have hl : (marksP ((p.map List.length).take k) m).length = k := by rw [marksP_length]; simp; omega
  rw [List.set_append_right _ _ (by omega), hl, Nat.sub_self, List.drop_eq_getElem_cons hk, List.set_cons_zero]
  have hn : (p.map List.length)[k]? = some r.length := by simp [hr]
  have e : marksP ((p.map List.length).take (k + 1)) m = marksP ((p.map List.length).take k) m ++ [marksI r.length (m + 4 * sumN ((p.map List.length).take k))] := by
    apply List.ext_getElem?
    intro i
    by_cases hi : i < k
    · obtain ⟨q, hq⟩ := get_of_lt (xs := p.map List.length) (k := i) (by simp; omega)
      rw [List.getElem?_append_left (by omega), marksP_get _ m (k := i) (n := q) (by rw [List.getElem?_take, if_pos (by omega)]; exact hq), marksP_get _ m (k := i) (n := q) (by rw [List.getElem?_take, if_pos (by omega)]; exact hq), List.take_take, List.take_take, Nat.min_eq_left (by omega), Nat.min_eq_left (by omega)]
    · by_cases hi2 : i = k
      · subst hi2
        rw [List.getElem?_append_right (by omega), hl, marksP_get _ m (k := i) (n := r.length) (by rw [List.getElem?_take, if_pos (by omega)]; exact hn), List.take_take, Nat.min_eq_left (by omega)]; simp
      · rw [List.getElem?_eq_none (by rw [marksP_length]; simp; omega), List.getElem?_eq_none (by simp [hl]; omega)]
  rw [e]; simp

end Go.Proofs.Ythglefilfpnikaa
