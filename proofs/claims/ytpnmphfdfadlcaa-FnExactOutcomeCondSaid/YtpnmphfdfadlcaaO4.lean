/-
  OutcomeCond of the program. Condition: bounds on lengths.
-/
import Derived.Test.YtpnmphfdfadlcaaO2
import Derived.Test.YtpnmphfdfadlcaaO3
import Derived.Test.YtpnmphfdfadlcaaN3
import Derived.Test.YtpnmphfdfadlcaaT6
import Derived.Test.YtpnmphfdfadlcaaT10
namespace Go.Proofs.Ytpnmphfdfadlcaa
open Go.RowKit Go.Shelf
attribute [local go_sem] Oper.semAt_some

def zC : Cd := .mk 0 0 0 0 []
def leafC (u : Cs) : Cd := .mk u.op u.th u.pl u.val []
def andF (c : Cd) (u : Cs) : Cd := .mk 3 0 0 0 [leafC u, c]
/-- The conjunction, built from the last one on. -/
def andB (z : Cs) (us : List Cs) : Cd := us.foldl andF (leafC z)
def andL : List Cs → Cd
  | [] => zC
  | x :: xs => match xs with
    | [] => leafC x
    | _ :: _ => .mk 3 0 0 0 [leafC x, andL xs]
theorem andL_two (x y : Cs) (xs : List Cs) : andL (x :: y :: xs) = .mk 3 0 0 0 [leafC x, andL (y :: xs)] := rfl
theorem andB_eq (z : Cs) (xs : List Cs) : andB z xs.reverse = andL (xs ++ [z]) := by
  unfold andB
  rw [List.foldl_reverse]
  induction xs with
  | nil => rfl
  | cons x xs ih =>
    rw [List.foldr_cons, ih]
    cases xs with
    | nil => rfl
    | cons y ys => rfl
def outC (p : List (List Ins)) (o : List Int) : Cd × Bool :=
  if outValid p o = true ∧ saidL p o ≠ [] ∧ validC (andL (saidL p o)) = true then (andL (saidL p o), true) else (zC, false)

/-- A condition that the call made, and whether there is one. -/
def RetCB (w : World) (r : Cd × Bool) (e : Ending) (w' : World) : Prop :=
  ∃ (o t q x : Int) (ks : List Cd) (s : Slc), r.1 = .mk o t q x ks ∧ e = .returned (.tuple #[.agg #[.int .i64 o, .int .i64 t, .int .i64 q, .int .i64 x, .slice s.a s.n s.cap], .bool r.2]) ∧ OwnC 25 w' w.heap.size w'.heap.size s ks ∧ Below w.heap.size w w'
theorem RetCB.no {w w' : World} (h : Below w.heap.size w w') : RetCB w (zC, false) (.returned (.tuple #[.agg #[.int .i64 0, .int .i64 0, .int .i64 0, .int .i64 0, .slice none 0 0], .bool false])) w' :=
  ⟨0, 0, 0, 0, [], ⟨none, 0, 0⟩, rfl, rfl, .nil, h⟩

theorem OwnC.keepCells {T : TypeId} {w w' : World} {lo hi : Nat} {s : Slc} {ks : List Cd} (h : OwnC T w lo hi s ks) (hk : ∀ q cur, lo ≤ q → w.heap[q]? = some (.cells cur T (0, 0)) → w'.heap[q]? = w.heap[q]?) : OwnC T w' lo hi s ks := by
  induction h with
  | nil => exact .nil
  | node cut h1 h2 h3 h4 h5 h6 h7 h8 ih =>
    rename_i lo hi g n cap us ks
    have hg := World.ownsRow.lt h2 g rfl
    refine .node cut h1 ?_ h3 h4 h5 h6 h7 (fun i u k hu hkk => ih i u k hu hkk (fun q cur hq => hk q cur (Nat.le_trans h4 (Nat.le_trans (cut_mono h5 (Nat.zero_le i)) hq))))
    refine ⟨h2.1, ?_⟩
    rcases h2.2 with ⟨hn, _⟩ | ⟨g', cap', cur, hv, hb1, hgg, rest⟩
    · simp at hn
    · simp only [Value.slice.injEq, Option.some.injEq, Addr.mk.injEq, and_true] at hv
      obtain ⟨rfl, rfl, rfl⟩ := hv
      exact .inr ⟨g, cap, cur, rfl, hb1, (hk g cur hg.1 hgg).trans hgg, rest⟩

theorem heap_keptO {W W' : World} {row : Option Nat} {b : Nat} {cur : Array Value} {T : TypeId} {fr : Nat × Nat} (h : W.heap[b]? = some (.cells cur T fr)) (hg : W.grownBy W' row) (hr : ∀ r, row = some r → ∃ o : Obj, W.heap[r]? = some o ∧ o.isCells = false) : W'.heap[b]? = some (.cells cur T fr) := by
  rw [hg.block b (Array.getElem?_eq_some_iff.1 h).1 (fun e => ?_), h]
  obtain ⟨o, h1, h2⟩ := hr b e.symm
  rw [h] at h1
  simp at h1; subst h1
  cases h2

/-- What holds between two rounds. -/
structure RndO (w : World) (A4 A7 Bs bg base : Nat) (vg : Value) (og : Obj) (c : Cd) (W : World) : Prop where
  a7 : ∃ s hi, W.heap[A7]? = some (.cells #[.int .i64 c.op, .int .i64 c.th, .int .i64 c.pl, .int .i64 c.val, .slice s.a s.n s.cap] 25 (0, 0)) ∧ OwnC 25 W base hi s c.kids ∧ base ≤ hi ∧ hi ≤ W.heap.size
  a4 : W.heap[A4]? = some (.cells #[.int .i64 0, .int .i64 0, .int .i64 0, .int .i64 0, .slice none 0 0] 25 (0, 0))
  bs : W.heap[Bs]? = some (.cells #[vg] 23 (0, 0))
  bg : W.heap[bg]? = some og
  bel : Below w.heap.size w W

theorem RndO.below {w : World} {A4 A7 Bs bg base : Nat} {vg : Value} {og : Obj} {c : Cd} {W W' : World} (h : RndO w A4 A7 Bs bg base vg og c W) (hb : Below W.heap.size W W') : RndO w A4 A7 Bs bg base vg og c W' := by
  obtain ⟨⟨s, hi, h1, h2, h3, h4⟩, h5, h6, h7, h8⟩ := h
  have k : ∀ {b : Nat} {o : Obj}, W.heap[b]? = some o → W'.heap[b]? = some o := fun h => (hb.block _ (Array.getElem?_eq_some_iff.1 h).1).trans h
  exact ⟨⟨s, hi, k h1, h2.keepB hb, h3, Nat.le_trans h4 hb.size⟩, k h5, k h6, k h7, h8.trans (hb.mono h8.size)⟩

theorem rndO_own {β : Type} {w : World} {A4 A7 Bs bg base B : Nat} {vg : Value} {og : Obj} (f : β → Cd) (hog : og.isCells = true) (hB : w.heap.size ≤ B) : OwnFrom B (fun s W => RndO w A4 A7 Bs bg base vg og (f s) W) := by
  intro x W W' row h hg hr
  have hr' : ∀ r, row = some r → ∃ o : Obj, W.heap[r]? = some o ∧ o.isCells = false := fun r e => (hr r e).2
  obtain ⟨⟨s, hi, h1, h2, h3, h4⟩, h5, h6, h7, h8⟩ := h
  refine ⟨⟨s, hi, heap_keptO h1 hg hr', h2.keepCells (fun q cur _ hq => (heap_keptO hq hg hr').trans hq.symm), h3, Nat.le_trans h4 hg.size⟩, heap_keptO h5 hg hr', heap_keptO h6 hg hr', ?_, h8.grown hg h8.size (fun k e => by have := (hr k e).1; omega)⟩
  rw [hg.block bg (Array.getElem?_eq_some_iff.1 h7).1 (fun e => ?_), h7]
  obtain ⟨o, e1, e2⟩ := hr' bg e.symm
  rw [h7] at e1
  simp at e1; subst e1
  rw [hog] at e2; cases e2

/-- A round: a literal of two, and the variable has the conjunction. -/
theorem RndO.step {w : World} {A4 A7 Bs bg base : Nat} {vg : Value} {og : Obj} {c : Cd} {W : World} (h : RndO w A4 A7 Bs bg base vg og c W) (u : Cs) (h47 : A4 ≠ A7) (hbs : Bs ≠ A7) (hbg : bg ≠ A7) (hb : A7 < base) (hw7 : w.heap.size ≤ A7) {s : Slc} {hi : Nat}
    (h1 : W.heap[A7]? = some (.cells #[.int .i64 c.op, .int .i64 c.th, .int .i64 c.pl, .int .i64 c.val, .slice s.a s.n s.cap] 25 (0, 0))) (h2 : OwnC 25 W base hi s c.kids) (h3 : base ≤ hi) (h4 : hi ≤ W.heap.size) :
    RndO w A4 A7 Bs bg base vg og (andF c u) ((((((W.alloc (.cells #[.int .i64 u.op, .int .i64 u.th, .int .i64 u.pl, .int .i64 u.val, .slice none 0 0, .int .i64 c.op, .int .i64 c.th, .int .i64 c.pl, .int .i64 c.val, .slice s.a s.n s.cap] 25)).setCell ⟨A7, 0, none⟩ (.int .i64 3)).setCell ⟨A7, 1, none⟩ (.int .i64 0)).setCell ⟨A7, 2, none⟩ (.int .i64 0)).setCell ⟨A7, 3, none⟩ (.int .i64 0)).setCell ⟨A7, 4, none⟩ (.slice (some ⟨W.heap.size, 0, none⟩) 2 2)) := by
  have ho : OwnC 25 W base base ⟨none, 0, 0⟩ [] := .nil
  have ht := ho.two h2 (Nat.le_refl _) h3 h4 u.op u.th u.pl u.val c.op c.th c.pl c.val
  rw [Cd.eta] at ht
  obtain ⟨-, h5, h6, h7, h8⟩ := h
  have hlt := (Array.getElem?_eq_some_iff.1 h1).1
  have hb1 := (Below.refl W.heap.size W).alloc (Nat.le_refl _) (.cells #[.int .i64 u.op, .int .i64 u.th, .int .i64 u.pl, .int .i64 u.val, .slice none 0 0, .int .i64 c.op, .int .i64 c.th, .int .i64 c.pl, .int .i64 c.val, .slice s.a s.n s.cap] 25)
  have hn := (hb1.block A7 hlt).trans h1
  have n5 := (hb1.block A4 (Array.getElem?_eq_some_iff.1 h5).1).trans h5
  have n6 := (hb1.block Bs (Array.getElem?_eq_some_iff.1 h6).1).trans h6
  have n7 := (hb1.block bg (Array.getElem?_eq_some_iff.1 h7).1).trans h7
  have hsz : (W.alloc (.cells #[.int .i64 u.op, .int .i64 u.th, .int .i64 u.pl, .int .i64 u.val, .slice none 0 0, .int .i64 c.op, .int .i64 c.th, .int .i64 c.pl, .int .i64 c.val, .slice s.a s.n s.cap] 25)).heap.size = W.heap.size + 1 := by simp
  have hbel := h8.trans (hb1.mono h8.size)
  generalize W.alloc (.cells #[.int .i64 u.op, .int .i64 u.th, .int .i64 u.pl, .int .i64 u.val, .slice none 0 0, .int .i64 c.op, .int .i64 c.th, .int .i64 c.pl, .int .i64 c.val, .slice s.a s.n s.cap] 25) = V at *
  have oth : ∀ (X : World) (b j : Nat) (v : Value), b ≠ A7 → (X.setCell ⟨A7, j, none⟩ v).heap[b]? = X.heap[b]? := fun X b j v hne => heap_setCell_other X ⟨A7, j, none⟩ b v hne
  refine ⟨⟨⟨some ⟨W.heap.size, 0, none⟩, 2, 2⟩, W.heap.size + 1, ?_, ?_, by omega, by simp [hsz]⟩, ?_, ?_, ?_, ?_⟩
  · have s0 := heap_setCell_same V A7 0 _ _ (.int .i64 3) hn
    have s1 := heap_setCell_same _ A7 1 _ _ (.int .i64 0) s0
    have s2 := heap_setCell_same _ A7 2 _ _ (.int .i64 0) s1
    have s3 := heap_setCell_same _ A7 3 _ _ (.int .i64 0) s2
    have s4 := heap_setCell_same _ A7 4 _ _ (.slice (some ⟨W.heap.size, 0, none⟩) 2 2) s3
    rw [s4]; rfl
  · refine ht.keep fun q hq1 _ _ => ?_
    have hne : q ≠ A7 := by omega
    rw [oth _ q 4 _ hne, oth _ q 3 _ hne, oth _ q 2 _ hne, oth _ q 1 _ hne, oth _ q 0 _ hne]
  · rw [oth _ _ 4 _ h47, oth _ _ 3 _ h47, oth _ _ 2 _ h47, oth _ _ 1 _ h47, oth _ _ 0 _ h47]; exact n5
  · rw [oth _ _ 4 _ hbs, oth _ _ 3 _ hbs, oth _ _ 2 _ hbs, oth _ _ 1 _ hbs, oth _ _ 0 _ hbs]; exact n6
  · rw [oth _ _ 4 _ hbg, oth _ _ 3 _ hbg, oth _ _ 2 _ hbg, oth _ _ 1 _ hbg, oth _ _ 0 _ hbg]; exact n7
  · exact ((((hbel.setCell hw7 _).setCell hw7 _).setCell hw7 _).setCell hw7 _).setCell hw7 _

end Go.Proofs.Ytpnmphfdfadlcaa
