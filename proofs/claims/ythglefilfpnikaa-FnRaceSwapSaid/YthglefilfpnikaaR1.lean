/-
  The laws' own functions on lists of races. No condition but bounds on lengths.
-/
import Derived.Test.YthglefilfpnikaaF17
namespace Go.Proofs.Ythglefilfpnikaa
open Go.RowKit

/-- What the walk asks of element k of a slice of races. -/
theorem Rep.rc {w : World} {a : Option Addr} {n c : Nat} {xs : List Rc} (h : Rep RcE w (.slice a n c) xs) {k : Nat} {x : Rc} (hx : xs[k]? = some x) :
    ∃ b o, a = some ⟨b, o, none⟩ ∧ b < w.heap.size ∧ w.cell? ⟨b, o + k * 4, none⟩ = some (.int .i64 x.a.t) ∧ w.cell? ⟨b, o + k * 4 + 1, none⟩ = some (.int .i64 x.a.i) ∧
      w.cell? ⟨b, o + k * 4 + 2, none⟩ = some (.int .i64 x.b.t) ∧ w.cell? ⟨b, o + k * 4 + 3, none⟩ = some (.int .i64 x.b.i) := by
  obtain ⟨a', c', hv, _, _, h⟩ := h
  simp only [Value.slice.injEq] at hv
  obtain ⟨rfl, rfl, rfl⟩ := hv
  obtain ⟨b, o, rfl, h'⟩ := h k x hx
  exact ⟨b, o, rfl, lt_of_cell (h' 0 _ rfl), h' 0 _ rfl, h' 1 _ rfl, h' 2 _ rfl, h' 3 _ rfl⟩

/-- What the walk asks of element k of an owned slice of races that is stored into. -/
theorem Own.rc {T : TypeId} {w : World} {base g n cap : Nat} {xs : List Rc} (h : Own RcE T w base (.slice (some ⟨g, 0, none⟩) n cap) xs) {k : Nat} {x : Rc} (hx : xs[k]? = some x) :
    g < w.heap.size ∧ w.cell? ⟨g, k * 4, none⟩ = some (.int .i64 x.a.t) ∧ w.cell? ⟨g, k * 4 + 1, none⟩ = some (.int .i64 x.a.i) ∧
      w.cell? ⟨g, k * 4 + 2, none⟩ = some (.int .i64 x.b.t) ∧ w.cell? ⟨g, k * 4 + 3, none⟩ = some (.int .i64 x.b.i) ∧ ∀ j, w.frozen? ⟨g, j, none⟩ = false :=
  ⟨(World.ownsRow.lt h g rfl).2, h.cell hx (j := 0) rfl, h.cell hx (j := 1) rfl, h.cell hx (j := 2) rfl, h.cell hx (j := 3) rfl, fun j => h.frozen j⟩

theorem Own.setRc {T : TypeId} {w : World} {base g n cap : Nat} {xs : List Rc} (h : Own RcE T w base (.slice (some ⟨g, 0, none⟩) n cap) xs) {k : Nat} {z : Rc} (hz : xs[k]? = some z) (x : Rc) :
    Own RcE T ((((w.setCell ⟨g, k * 4, none⟩ (.int .i64 x.a.t)).setCell ⟨g, k * 4 + 1, none⟩ (.int .i64 x.a.i)).setCell ⟨g, k * 4 + 2, none⟩ (.int .i64 x.b.t)).setCell ⟨g, k * 4 + 3, none⟩ (.int .i64 x.b.i)) base (.slice (some ⟨g, 0, none⟩) n cap) (xs.set k x) := by
  have h0 := h.set (i := k) (j := 0) ⟨⟨x.a.t, z.a.i⟩, ⟨z.b.t, z.b.i⟩⟩ (u := .int .i64 x.a.t) (by decide) hz rfl
  have h1 := h0.set (i := k) (j := 1) ⟨⟨x.a.t, x.a.i⟩, ⟨z.b.t, z.b.i⟩⟩ (u := .int .i64 x.a.i) (by decide) (get_set_self hz _) rfl
  have h2 := h1.set (i := k) (j := 2) ⟨⟨x.a.t, x.a.i⟩, ⟨x.b.t, z.b.i⟩⟩ (u := .int .i64 x.b.t) (by decide) (get_set_self (get_set_self hz _) _) rfl
  have h3 := h2.set (i := k) (j := 3) x (u := .int .i64 x.b.i) (by decide) (get_set_self (get_set_self (get_set_self hz _) _) _) rfl
  simp only [List.set_set] at h3
  exact h3


/-- The race whose fields are numbered from m on. -/
def markR (m : Int) : Rc := ⟨⟨m, m + 1⟩, ⟨m + 1 + 1, m + 1 + 1 + 1⟩⟩
/-- So many races, numbered from m on. -/
def marksR : Nat → Int → List Rc
  | 0, _ => []
  | n + 1, m => markR m :: marksR n (m + 4)

theorem marksR_length (n : Nat) (m : Int) : (marksR n m).length = n := by
  induction n generalizing m with
  | zero => rfl
  | succ n ih => simp [marksR, ih]

theorem marksR_get (n : Nat) (m : Int) {k : Nat} (h : k < n) : (marksR n m)[k]? = some (markR (m + 4 * k)) := by
  induction n generalizing m k with
  | zero => omega
  | succ n ih =>
    cases k with
    | zero => simp [marksR]
    | succ k => simp only [marksR, List.getElem?_cons_succ]; rw [ih _ (by omega)]; congr 2; omega

/-- The first k marked, the rest as they were. -/
theorem marksR_step (xs : List Rc) (m : Int) {k : Nat} (hk : k < xs.length) : ((marksR k m) ++ xs.drop k).set k (markR (m + 4 * k)) = marksR (k + 1) m ++ xs.drop (k + 1) := by
  have h1 : marksR (k + 1) m = marksR k m ++ [markR (m + 4 * k)] := by
    apply List.ext_getElem?
    intro i
    by_cases hi : i < k
    · rw [marksR_get _ _ (by omega), List.getElem?_append_left (by rw [marksR_length]; exact hi), marksR_get _ _ hi]
    · by_cases hi2 : i = k
      · subst hi2
        rw [marksR_get _ _ (by omega), List.getElem?_append_right (by rw [marksR_length]; omega), marksR_length]; simp
      · rw [List.getElem?_eq_none (by rw [marksR_length]; omega), List.getElem?_eq_none (by simp [marksR_length]; omega)]
  rw [List.set_append_right _ _ (by rw [marksR_length]; omega), marksR_length, Nat.sub_self, List.drop_eq_getElem_cons hk, List.set_cons_zero, h1]
  simp

end Go.Proofs.Ythglefilfpnikaa
