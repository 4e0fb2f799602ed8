/-
  Conditions that are drawn. Condition: not too many numbers were taken.
-/
import Derived.Test.YtbndkefoinmmgaaD1
import Derived.Test.YtbndkefoinmmgaaT1
namespace Go.Proofs.Ytbndkefoinmmgaa
open Go.RowKit

theorem belowAlloc (w : World) (o : Obj) : Below w.heap.size w (w.alloc o) := (Below.refl _ _).alloc (Nat.le_refl _) o

theorem ocell {b : Nat} {W w1 : World} (h : Outside b (b + 1) W w1) : (∀ g o, g < W.heap.size → g ≠ b → w1.cell? ⟨g, o, none⟩ = W.cell? ⟨g, o, none⟩) ∧ (∀ g o, g < W.heap.size → g ≠ b → w1.frozen? ⟨g, o, none⟩ = W.frozen? ⟨g, o, none⟩) := by
  refine ⟨fun g o hg hne => cell_of_block (h.block g hg (by omega)) o, fun g o hg hne => ?_⟩
  have := h.block g hg (by omega)
  unfold World.frozen?
  rw [this]

theorem Outside.setNew {lo hi : Nat} {w w' : World} (h : Outside lo hi w w') {g : Nat} (hg : w.heap.size ≤ g) (j : Nat) (v : Value) : Outside lo hi w (w'.setCell ⟨g, j, none⟩ v) :=
  ⟨h.os, h.tape, h.output, by simpa using h.size, fun k hk hlh => (heap_setCell_other w' ⟨g, j, none⟩ k v (fun e => by simp at e; omega)).trans (h.block k hk hlh)⟩

theorem Outside.allocNew {lo hi : Nat} {w w' : World} (h : Outside lo hi w w') (o : Obj) : Outside lo hi w (w'.alloc o) := h.trans (Outside.of_below (belowAlloc _ _))

theorem Rd.setNew {w : World} {b : Nat} {a : Option Addr} {c : Nat} {xs : List Int} {p : Int} (h : Rd w b a c xs p) {g : Nat} (hg : b < g) (j : Nat) (v : Value) : Rd (w.setCell ⟨g, j, none⟩ v) b a c xs p :=
  h.keep (B := b + 1) ((Below.refl _ _).setCell (show b + 1 ≤ g from hg) v) (Nat.lt_succ_self _)
theorem Rd.allocNew {w : World} {b : Nat} {a : Option Addr} {c : Nat} {xs : List Int} {p : Int} (h : Rd w b a c xs p) (o : Obj) : Rd (w.alloc o) b a c xs p :=
  h.keep (belowAlloc w o) h.lt

theorem RepK.outside {lo b : Nat} {w w' : World} {s : Slc} {ks : List Cd} (h : RepK lo w s ks) (ho : Outside b (b + 1) w w') (hb : b < lo) : RepK lo w' s ks :=
  h.keep fun q hq hqs => ho.block q hqs (by omega)
theorem RepK.allocNew {lo : Nat} {w : World} {s : Slc} {ks : List Cd} (h : RepK lo w s ks) (o : Obj) : RepK lo (w.alloc o) s ks := h.below (belowAlloc w o)

/-- A literal of one condition. -/
theorem RepK.one {lo : Nat} {w : World} {o t q x : Int} {s : Slc} {ks : List Cd} (h : RepK lo w s ks) (hlo : lo ≤ w.heap.size) (T : TypeId) :
    RepK lo (w.alloc (.cells #[.int .i64 o, .int .i64 t, .int .i64 q, .int .i64 x, .slice s.a s.n s.cap] T)) ⟨some ⟨w.heap.size, 0, none⟩, 1, 1⟩ [.mk o t q x ks] := by
  refine ⟨[⟨o, t, q, x, s⟩], rfl, ⟨_, 1, rfl, Nat.le_refl _, by unfold maxLen; omega, fun i u hu => ?_⟩, .inr fun b f e => by simp at e; omega, fun i u k hu hk => ?_⟩
  · refine ⟨w.heap.size, 0, rfl, fun j v hv => ?_⟩
    cases i with
    | zero =>
      simp at hu; subst hu
      rw [cell_of_row _ _ _ _ T (0, 0) (heap_alloc_new w _)]
      simpa [CsE] using hv
    | succ i => simp at hu
  · cases i with
    | zero =>
      simp at hu hk; subst hu; subst hk
      exact (h.allocNew _).cond o t q x
    | succ i => simp at hu

/-- A literal of two conditions. -/
theorem RepK.two {lo : Nat} {w : World} {o t q x o' t' q' x' : Int} {s s' : Slc} {ks ks' : List Cd} (h : RepK lo w s ks) (h' : RepK lo w s' ks') (hlo : lo ≤ w.heap.size) (T : TypeId) :
    RepK lo (w.alloc (.cells #[.int .i64 o, .int .i64 t, .int .i64 q, .int .i64 x, .slice s.a s.n s.cap, .int .i64 o', .int .i64 t', .int .i64 q', .int .i64 x', .slice s'.a s'.n s'.cap] T)) ⟨some ⟨w.heap.size, 0, none⟩, 2, 2⟩ [.mk o t q x ks, .mk o' t' q' x' ks'] := by
  refine ⟨[⟨o, t, q, x, s⟩, ⟨o', t', q', x', s'⟩], rfl, ⟨_, 2, rfl, Nat.le_refl _, by unfold maxLen; omega, fun i u hu => ?_⟩, .inr fun b f e => by simp at e; omega, fun i u k hu hk => ?_⟩
  · refine ⟨w.heap.size, 0, rfl, fun j v hv => ?_⟩
    match i, hu with
    | 0, hu =>
      simp at hu; subst hu
      rw [cell_of_row _ _ _ _ T (0, 0) (heap_alloc_new w _)]
      have hj : j < 5 := by have := (List.getElem?_eq_some_iff.1 hv).1; simpa [CsE] using this
      match j, hj, hv with
      | 0, _, hv => simpa [CsE] using hv
      | 1, _, hv => simpa [CsE] using hv
      | 2, _, hv => simpa [CsE] using hv
      | 3, _, hv => simpa [CsE] using hv
      | 4, _, hv => simpa [CsE] using hv
    | 1, hu =>
      simp at hu; subst hu
      rw [cell_of_row _ _ _ _ T (0, 0) (heap_alloc_new w _)]
      have hj : j < 5 := by have := (List.getElem?_eq_some_iff.1 hv).1; simpa [CsE] using this
      match j, hj, hv with
      | 0, _, hv => simpa [CsE] using hv
      | 1, _, hv => simpa [CsE] using hv
      | 2, _, hv => simpa [CsE] using hv
      | 3, _, hv => simpa [CsE] using hv
      | 4, _, hv => simpa [CsE] using hv
    | i + 2, hu => simp at hu
  · match i, hu, hk with
    | 0, hu, hk => simp at hu hk; subst hu; subst hk; exact (h.allocNew _).cond o t q x
    | 1, hu, hk => simp at hu hk; subst hu; subst hk; exact (h'.allocNew _).cond o' t' q' x'
    | i + 2, hu, _ => simp at hu

theorem descs_one (c : Cd) : descs [c] = descs c.kids + 1 := by
  have : descs [c] = c.desc + 1 := by simp [descs]
  rw [this, Cd.desc_eq]
theorem descs_two (c d : Cd) : descs [c, d] = (descs c.kids + 1) + (descs d.kids + 1) := by
  have : descs [c, d] = (c.desc + 1) + (d.desc + 1) := by simp [descs]
  rw [this, Cd.desc_eq, Cd.desc_eq]
theorem RepK.set2 {lo : Nat} {w : World} {s : Slc} {ks : List Cd} (h : RepK lo w s ks) {g : Nat} (hg : g < lo) (j : Nat) (u : Value) : RepK lo (w.setCell ⟨g, j, none⟩ u) s ks :=
  h.keep fun q hq _ => heap_setCell_other w ⟨g, j, none⟩ q u (fun e => by simp at e; omega)

theorem rep_lit (w : World) (ys : List Int) (T : TypeId) (h : ys.length ≤ 100) : Rep IntE (w.alloc (.cells (ys.map (Value.int .i64)).toArray T)) (.slice (some ⟨w.heap.size, 0, none⟩) ys.length ys.length) ys := by
  refine ⟨_, _, rfl, Nat.le_refl _, by unfold maxLen; omega, fun i x hx => ⟨w.heap.size, 0, rfl, fun j u hu => ?_⟩⟩
  rw [cell_of_row _ _ _ _ T (0, 0) (heap_alloc_new w _)]
  have hj : j = 0 := by have := (List.getElem?_eq_some_iff.1 hu).1; simp [IntE] at this; omega
  subst hj
  simp [IntE] at hu
  simp [IntE, hx, hu]

/-- A condition that was drawn: all of it new. -/
def QC (lo : Nat) (K : Int) (v : Value) (w : World) : Prop := ∃ (o t q x : Int) (s : Slc) (ks : List Cd), v = .agg #[.int .i64 o, .int .i64 t, .int .i64 q, .int .i64 x, .slice s.a s.n s.cap] ∧ RepK lo w s ks ∧ (descs ks : Int) + 2 ≤ K

theorem pow_pos2 (d : Nat) : (1 : Int) ≤ 2 ^ d := by
  induction d with
  | zero => simp
  | succ d ih => rw [Int.pow_succ]; omega

end Go.Proofs.Ytbndkefoinmmgaa