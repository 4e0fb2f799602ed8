/-
  The laws' own functions on conditions: copy. No condition but bounds on sizes.
-/
import Derived.Test.YtpnmphfdfadlcaaT2
namespace Go.Proofs.Ytpnmphfdfadlcaa
open Go.RowKit

/-- What a copy of parts hands back. -/
def RetK (w : World) (xs : List Cd) (e : Ending) (w' : World) : Prop := ∃ s : Slc, e = .returned (.slice s.a s.n s.cap) ∧ RepK w.heap.size w' s xs ∧ Below w.heap.size w w'
/-- What a copy of a condition hands back. -/
def RetC (w : World) (o t p x : Int) (xs : List Cd) (e : Ending) (w' : World) : Prop := ∃ s : Slc, e = .returned (.agg #[.int .i64 o, .int .i64 t, .int .i64 p, .int .i64 x, .slice s.a s.n s.cap]) ∧ RepK w.heap.size w' s xs ∧ Below w.heap.size w w'

theorem RetK.mono {w0 w : World} {xs : List Cd} {e : Ending} {w' : World} (h : RetK w xs e w') (hb : Below w0.heap.size w0 w) : RetK w0 xs e w' := by
  obtain ⟨s, h1, h2, h3⟩ := h
  exact ⟨s, h1, h2.low hb.size, hb.trans (h3.mono hb.size)⟩

theorem RepK.set {lo : Nat} {w : World} {s : Slc} {ks : List Cd} (h : RepK lo w s ks) {g : Nat} (hg : g < lo) (j : Nat) (u : Value) : RepK lo (w.setCell ⟨g, j, none⟩ u) s ks :=
  h.keep fun q hq _ => heap_setCell_other w ⟨g, j, none⟩ q u (fun e => by simp at e; omega)
theorem RepC.set {lo : Nat} {w : World} {s : Cs} {ks : Cd} (h : RepC lo w s ks) {g : Nat} (hg : g < lo) (j : Nat) (u : Value) : RepC lo (w.setCell ⟨g, j, none⟩ u) s ks :=
  h.keep fun q hq _ => heap_setCell_other w ⟨g, j, none⟩ q u (fun e => by simp at e; omega)

/-- One element of an owned slice of conditions is stored. -/
theorem Own.setCs {T : TypeId} {w : World} {base g n cap : Nat} {xs : List Cs} (h : Own CsE T w base (.slice (some ⟨g, 0, none⟩) n cap) xs) {k : Nat} {z : Cs} (hz : xs[k]? = some z) (x : Cs) :
    Own CsE T (((((w.setCell ⟨g, k * 5, none⟩ (.int .i64 x.op)).setCell ⟨g, k * 5 + 1, none⟩ (.int .i64 x.th)).setCell ⟨g, k * 5 + 2, none⟩ (.int .i64 x.pl)).setCell ⟨g, k * 5 + 3, none⟩ (.int .i64 x.val)).setCell ⟨g, k * 5 + 4, none⟩ (.slice x.s.a x.s.n x.s.cap)) base (.slice (some ⟨g, 0, none⟩) n cap) (xs.set k x) := by
  have h0 := h.set (i := k) (j := 0) ⟨x.op, z.th, z.pl, z.val, z.s⟩ (u := .int .i64 x.op) (by decide) hz rfl
  have h1 := h0.set (i := k) (j := 1) ⟨x.op, x.th, z.pl, z.val, z.s⟩ (u := .int .i64 x.th) (by decide) (get_set_self hz _) rfl
  have h2 := h1.set (i := k) (j := 2) ⟨x.op, x.th, x.pl, z.val, z.s⟩ (u := .int .i64 x.pl) (by decide) (get_set_self (get_set_self hz _) _) rfl
  have h3 := h2.set (i := k) (j := 3) ⟨x.op, x.th, x.pl, x.val, z.s⟩ (u := .int .i64 x.val) (by decide) (get_set_self (get_set_self (get_set_self hz _) _) _) rfl
  have h4 := h3.set (i := k) (j := 4) x (u := .slice x.s.a x.s.n x.s.cap) (by decide) (get_set_self (get_set_self (get_set_self (get_set_self hz _) _) _) _) rfl
  simp only [List.set_set] at h4
  exact h4

theorem Own.cs {T : TypeId} {w : World} {base g n cap : Nat} {xs : List Cs} (h : Own CsE T w base (.slice (some ⟨g, 0, none⟩) n cap) xs) {k : Nat} {x : Cs} (hx : xs[k]? = some x) :
    g < w.heap.size ∧ w.cell? ⟨g, k * 5, none⟩ = some (.int .i64 x.op) ∧ w.cell? ⟨g, k * 5 + 1, none⟩ = some (.int .i64 x.th) ∧
      w.cell? ⟨g, k * 5 + 2, none⟩ = some (.int .i64 x.pl) ∧ w.cell? ⟨g, k * 5 + 3, none⟩ = some (.int .i64 x.val) ∧ w.cell? ⟨g, k * 5 + 4, none⟩ = some (.slice x.s.a x.s.n x.s.cap) ∧ ∀ j, w.frozen? ⟨g, j, none⟩ = false :=
  ⟨(World.ownsRow.lt h g rfl).2, h.cell hx (j := 0) rfl, h.cell hx (j := 1) rfl, h.cell hx (j := 2) rfl, h.cell hx (j := 3) rfl, h.cell hx (j := 4) rfl, fun j => h.frozen j⟩

end Go.Proofs.Ytpnmphfdfadlcaa
