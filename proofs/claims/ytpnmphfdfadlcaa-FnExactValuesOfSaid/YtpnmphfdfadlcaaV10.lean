/-
  The program's valuer: the value that an event writes. Condition: bounds on lengths.
-/
import Derived.Test.YtpnmphfdfadlcaaV9
import Derived.Deep.RegionHeld3
import Derived.Deep.DeepCutAuto
namespace Go.Proofs.Ytpnmphfdfadlcaa
open Go.RowKit

theorem dep_t0 {p : List (List Ins)} {es : List Ev} {fr : List Int} {i : Nat} {e : Ev} (h : es[i]? = some e) (ht : e.t < 0) : depV p es fr i = .inl 0 := by
  unfold depV; rw [h]; simp only; rw [if_pos ht]
theorem dep_op {p : List (List Ins)} {es : List Ev} {fr : List Int} {i : Nat} {e : Ev} (h : es[i]? = some e) (ht : ¬ e.t < 0) (ho : (insE p e).op ≠ 3) : depV p es fr i = .inl (insE p e).val := by
  unfold depV; rw [h]; simp only; rw [if_neg ht, if_neg ho]
theorem dep_r0 {p : List (List Ins)} {es : List Ev} {fr : List Int} {i : Nat} {e : Ev} (h : es[i]? = some e) (ht : ¬ e.t < 0) (ho : (insE p e).op = 3) (hr : lastRd p es e.t e.i (insE p e).reg < 0) : depV p es fr i = .inl 0 := by
  unfold depV; rw [h]; simp only; rw [if_neg ht, if_pos ho, if_pos hr]
theorem dep_rr {p : List (List Ins)} {es : List Ev} {fr : List Int} {i : Nat} {e : Ev} (h : es[i]? = some e) (ht : ¬ e.t < 0) (ho : (insE p e).op = 3) {r j : Nat} (hr : lastRd p es e.t e.i (insE p e).reg = (r : Int)) (hj : fr[r]? = some (j : Int)) : depV p es fr i = .inr j := by
  unfold depV; rw [h]; simp only; rw [if_neg ht, if_pos ho, if_neg (by omega), hr]
  simp [hj]
theorem lastRd_cases (p : List (List Ins)) (es : List Ev) (t idx reg : Int) : lastRd p es t idx reg = -1 ∨ ∃ (r : Nat) (e : Ev), lastRd p es t idx reg = r ∧ es[r]? = some e ∧ e.r = true := by
  rcases lastTo_cases p es t idx reg es.length (Nat.le_refl _) with h | ⟨i, e, h1, -, h2, h3⟩
  · exact .inl h
  · refine .inr ⟨i, e, h1, h2, ?_⟩
    unfold hitR at h3; simp at h3; exact h3.2.2.1

/-- Truth values. -/
def BoolE : El Bool := ⟨1, by decide, fun x => [.bool x], fun _ => rfl, fun x u h => by simp at h; subst h; rfl⟩
theorem Own.boolc {T : TypeId} {w : World} {base g n cap : Nat} {xs : List Bool} (h : Own BoolE T w base (.slice (some ⟨g, 0, none⟩) n cap) xs) {k : Nat} {x : Bool} (hx : xs[k]? = some x) :
    g < w.heap.size ∧ w.cell? ⟨g, k, none⟩ = some (.bool x) ∧ ∀ j, w.frozen? ⟨g, j, none⟩ = false := by
  have := h.cell hx (j := 0) rfl
  simp only [BoolE, Nat.mul_one, Nat.add_zero] at this
  exact ⟨(World.ownsRow.lt h g rfl).2, this, fun j => h.frozen j⟩
theorem Own.setBool {T : TypeId} {w : World} {base g n cap : Nat} {xs : List Bool} (h : Own BoolE T w base (.slice (some ⟨g, 0, none⟩) n cap) xs) {k : Nat} {z : Bool} (hz : xs[k]? = some z) (x : Bool) :
    Own BoolE T (w.setCell ⟨g, k, none⟩ (.bool x)) base (.slice (some ⟨g, 0, none⟩) n cap) (xs.set k x) := by
  have h0 := h.set (i := k) (j := 0) x (u := .bool x) (by decide) hz rfl
  simp only [BoolE, Nat.mul_one, Nat.add_zero] at h0
  exact h0
theorem count_set {bz : List Bool} {i : Nat} (h : bz[i]? = some false) : (bz.set i true).countP (fun b => !b) + 1 = bz.countP (fun b => !b) := by
  induction bz generalizing i with
  | nil => simp at h
  | cons b bz ih =>
    cases i with
    | zero => simp at h; subst h; simp
    | succ i =>
      simp at h
      have := ih h
      simp only [List.set_cons_succ, List.countP_cons]
      omega
theorem set_back {bz : List Bool} {i : Nat} (h : bz[i]? = some false) : (bz.set i true).set i false = bz := by
  rw [List.set_set]
  apply List.ext_getElem?
  intro k
  rw [List.getElem?_set]
  split
  · rename_i hk
    subst hk
    rw [h, if_pos (List.getElem?_eq_some_iff.1 h).1]
  · rfl

theorem Own.sameV {α : Type} {E : El α} {T : TypeId} {w w' : World} {base : Nat} {v : Value} {xs : List α} (h : Own E T w base v xs) (hB : ∀ k, v.ownBlock = some k → w'.heap[k]? = w.heap[k]?) : Own E T w' base v xs := by
  refine ⟨h.1, ?_⟩
  rcases h.2 with hn | ⟨g, cap, cur, rfl, hb1, hgg, rest⟩
  · exact .inl hn
  · exact .inr ⟨g, cap, cur, rfl, hb1, (hB g rfl).trans hgg, rest⟩
theorem own_or {α β : Type} {E : El α} {F : El β} {T U : TypeId} (hT : T ≠ U) {w : World} {base base' : Nat} {v u : Value} {xs : List α} {ys : List β} (h : Own E T w base v xs) (k : Own F U w base' u ys) : u.ownBlock = none ∨ u.ownBlock ≠ v.ownBlock := by
  rcases hq : u.ownBlock with _ | q
  · exact .inl rfl
  · exact .inr fun e => own_ne hT h k q hq e.symm

end Go.Proofs.Ytpnmphfdfadlcaa
