/-
  Conditions are trees: how they lie in memory. No condition.
-/
import Derived.Test.YtpnmphfdfadlcaaBase
namespace Go.Proofs.Ytpnmphfdfadlcaa
open Go.RowKit

/-- A condition. -/
inductive Cd where
  | mk (op th pl val : Int) (kids : List Cd)

def Cd.op : Cd → Int
  | .mk o _ _ _ _ => o
def Cd.th : Cd → Int
  | .mk _ t _ _ _ => t
def Cd.pl : Cd → Int
  | .mk _ _ p _ _ => p
def Cd.val : Cd → Int
  | .mk _ _ _ x _ => x
def Cd.kids : Cd → List Cd
  | .mk _ _ _ _ k => k

theorem Cd.eta (c : Cd) : Cd.mk c.op c.th c.pl c.val c.kids = c := by cases c; rfl

/-- What holds of all lists of conditions. -/
theorem Cd.all {P : List Cd → Prop} (h : ∀ ks, (∀ c ∈ ks, P c.kids) → P ks) (ks : List Cd) : P ks := by
  apply h
  induction ks with
  | nil => intro c hc; simp at hc
  | cons c ks ih =>
    intro d hd
    have hc : P c.kids := by
      refine Cd.rec (motive_1 := fun c => P c.kids) (motive_2 := fun l => ∀ c ∈ l, P c.kids) ?_ ?_ ?_ c
      · intro o t p x l hl; exact h l hl
      · intro c hc; simp at hc
      · intro a l ha hl c hc
        rcases List.mem_cons.1 hc with rfl | hc
        · exact ha
        · exact hl c hc
    rcases List.mem_cons.1 hd with rfl | hd
    · exact hc
    · exact ih d hd

/-- A condition as it lies: its numbers and the slice of its parts. -/
structure Cs where
  op : Int
  th : Int
  pl : Int
  val : Int
  s : Slc

abbrev Cs.v (u : Cs) : Value := .agg #[.int .i64 u.op, .int .i64 u.th, .int .i64 u.pl, .int .i64 u.val, .slice u.s.a u.s.n u.s.cap]
def CsE : El Cs := ⟨5, by decide, fun x => [.int .i64 x.op, .int .i64 x.th, .int .i64 x.pl, .int .i64 x.val, .slice x.s.a x.s.n x.s.cap], fun _ => rfl, fun x u h => by simp at h; rcases h with rfl | rfl | rfl | rfl | rfl <;> rfl⟩

theorem cell_of_block {w w' : World} {b : Nat} (h : w'.heap[b]? = w.heap[b]?) (o : Nat) : w'.cell? ⟨b, o, none⟩ = w.cell? ⟨b, o, none⟩ := by
  unfold World.cell?
  rw [h]

/-- What is read of a slice hangs on the blocks from lo on. -/
def From (lo : Nat) {α : Type} (s : Slc) (us : List α) : Prop := us = [] ∨ ∀ b o, s.a = some ⟨b, o, none⟩ → lo ≤ b

/-- u reads as the condition c, in blocks from lo on. -/
inductive RepC (lo : Nat) (w : World) : Cs → Cd → Prop
  | mk {o t p x : Int} {s : Slc} {us : List Cs} {ks : List Cd} (h1 : us.length = ks.length) (h2 : Rep CsE w s.v us) (h3 : From lo s us)
      (h4 : ∀ (i : Nat) (u : Cs) (k : Cd), us[i]? = some u → ks[i]? = some k → RepC lo w u k) : RepC lo w ⟨o, t, p, x, s⟩ (.mk o t p x ks)

/-- s reads as the conditions ks, in blocks from lo on. -/
def RepK (lo : Nat) (w : World) (s : Slc) (ks : List Cd) : Prop :=
  ∃ us : List Cs, us.length = ks.length ∧ Rep CsE w s.v us ∧ From lo s us ∧ ∀ (i : Nat) (u : Cs) (k : Cd), us[i]? = some u → ks[i]? = some k → RepC lo w u k

theorem RepC.kids {lo : Nat} {w : World} {u : Cs} {c : Cd} (h : RepC lo w u c) : u.op = c.op ∧ u.th = c.th ∧ u.pl = c.pl ∧ u.val = c.val ∧ RepK lo w u.s c.kids := by
  cases h with
  | mk h1 h2 h3 h4 => exact ⟨rfl, rfl, rfl, rfl, _, h1, h2, h3, h4⟩

theorem RepK.cond {lo : Nat} {w : World} {s : Slc} {ks : List Cd} (h : RepK lo w s ks) (o t p x : Int) : RepC lo w ⟨o, t, p, x, s⟩ (.mk o t p x ks) := by
  obtain ⟨us, h1, h2, h3, h4⟩ := h
  exact .mk h1 h2 h3 h4

theorem Rep.from {lo : Nat} {w w' : World} {s : Slc} {us : List Cs} (h : Rep CsE w s.v us) (hf : From lo s us) (hk : ∀ q, lo ≤ q → q < w.heap.size → w'.heap[q]? = w.heap[q]?) : Rep CsE w' s.v us := by
  obtain ⟨a, c, hv, h1, h2, h⟩ := h
  refine ⟨a, c, hv, h1, h2, fun i x hx => ?_⟩
  obtain ⟨b, o, rfl, hi⟩ := h i x hx
  refine ⟨b, o, rfl, fun j u hu => ?_⟩
  have hc := hi j u hu
  rw [← hc]
  refine cell_of_block (hk b ?_ (lt_of_cell hc)) _
  rcases hf with rfl | hf
  · simp at hx
  · simp only [Slc.v, Value.slice.injEq] at hv
    exact hf b o hv.1

theorem RepC.keep {lo : Nat} {w w' : World} {u : Cs} {c : Cd} (h : RepC lo w u c) (hk : ∀ q, lo ≤ q → q < w.heap.size → w'.heap[q]? = w.heap[q]?) : RepC lo w' u c := by
  induction h with
  | mk h1 h2 h3 h4 ih => exact .mk h1 (h2.from h3 hk) h3 ih

theorem RepC.low {lo lo' : Nat} {w : World} {u : Cs} {c : Cd} (h : RepC lo w u c) (hl : lo' ≤ lo) : RepC lo' w u c := by
  induction h with
  | mk h1 h2 h3 h4 ih =>
    refine .mk h1 h2 ?_ ih
    rcases h3 with h3 | h3
    · exact .inl h3
    · exact .inr fun b o e => Nat.le_trans hl (h3 b o e)

theorem RepK.keep {lo : Nat} {w w' : World} {s : Slc} {ks : List Cd} (h : RepK lo w s ks) (hk : ∀ q, lo ≤ q → q < w.heap.size → w'.heap[q]? = w.heap[q]?) : RepK lo w' s ks := by
  obtain ⟨us, h1, h2, h3, h4⟩ := h
  exact ⟨us, h1, h2.from h3 hk, h3, fun i u k hu hk' => (h4 i u k hu hk').keep hk⟩

theorem RepK.low {lo lo' : Nat} {w : World} {s : Slc} {ks : List Cd} (h : RepK lo w s ks) (hl : lo' ≤ lo) : RepK lo' w s ks := by
  obtain ⟨us, h1, h2, h3, h4⟩ := h
  refine ⟨us, h1, h2, ?_, fun i u k hu hk' => (h4 i u k hu hk').low hl⟩
  rcases h3 with h3 | h3
  · exact .inl h3
  · exact .inr fun b o e => Nat.le_trans hl (h3 b o e)

theorem RepK.below {lo : Nat} {w w' : World} {s : Slc} {ks : List Cd} (h : RepK lo w s ks) (hb : Below w.heap.size w w') : RepK lo w' s ks := h.keep fun q _ hq => hb.block q hq
theorem RepC.belowW {lo : Nat} {w w' : World} {u : Cs} {c : Cd} (h : RepC lo w u c) (hb : Below w.heap.size w w') : RepC lo w' u c := h.keep fun q _ hq => hb.block q hq

theorem RepK.nil (lo : Nat) (w : World) : RepK lo w ⟨none, 0, 0⟩ [] := ⟨[], rfl, Rep.nil w, .inl rfl, fun i u k h => by simp at h⟩

theorem RepK.open {lo : Nat} {w : World} {s : Slc} {ks : List Cd} (h : RepK lo w s ks) : s.n = ks.length ∧ ks.length ≤ s.cap ∧ ks.length ≤ 9223372036854775807 ∧ s.cap ≤ maxLen := by
  obtain ⟨us, h1, h2, h3, h4⟩ := h
  obtain ⟨a, c, hv, h5, h6, h7, _⟩ := h2.open
  simp only [Slc.v, Value.slice.injEq] at hv
  obtain ⟨_, e2, e3⟩ := hv
  rw [e2, e3]; omega

/-- What the walk asks of part k. -/
theorem RepK.kid {lo : Nat} {w : World} {a : Option Addr} {n c : Nat} {ks : List Cd} (h : RepK lo w ⟨a, n, c⟩ ks) {k : Nat} {x : Cd} (hx : ks[k]? = some x) :
    ∃ (b o : Nat) (s : Slc), a = some ⟨b, o, none⟩ ∧ b < w.heap.size ∧ w.cell? ⟨b, o + k * 5, none⟩ = some (.int .i64 x.op) ∧ w.cell? ⟨b, o + k * 5 + 1, none⟩ = some (.int .i64 x.th) ∧
      w.cell? ⟨b, o + k * 5 + 2, none⟩ = some (.int .i64 x.pl) ∧ w.cell? ⟨b, o + k * 5 + 3, none⟩ = some (.int .i64 x.val) ∧ w.cell? ⟨b, o + k * 5 + 4, none⟩ = some (.slice s.a s.n s.cap) ∧ RepK lo w s x.kids := by
  obtain ⟨us, h1, h2, h3, h4⟩ := h
  obtain ⟨u, hu⟩ := get_of_lt (xs := us) (k := k) (by rw [h1]; exact (List.getElem?_eq_some_iff.1 hx).1)
  obtain ⟨e1, e2, e3, e4, hk⟩ := (h4 k u x hu hx).kids
  obtain ⟨a', c', hv, _, _, h⟩ := h2
  simp only [Slc.v, Value.slice.injEq] at hv
  obtain ⟨rfl, _, _⟩ := hv
  obtain ⟨b, o, rfl, h'⟩ := h k u hu
  rw [← e1, ← e2, ← e3, ← e4]
  exact ⟨b, o, u.s, rfl, lt_of_cell (h' 0 _ rfl), h' 0 _ rfl, h' 1 _ rfl, h' 2 _ rfl, h' 3 _ rfl, h' 4 _ rfl, hk⟩

/-- The number of all parts, without the root. -/
def Cd.desc : Cd → Nat
  | .mk _ _ _ _ ks => ks.length + (ks.attach.map fun ⟨k, _⟩ => k.desc).sum
termination_by c => SizeOf.sizeOf c
decreasing_by
  have := List.sizeOf_lt_of_mem ‹_›
  simp; omega

def descs (ks : List Cd) : Nat := (ks.map fun k => k.desc + 1).sum

theorem sum_attach (ks : List Cd) : ks.length + (ks.attach.map fun k => k.1.desc).sum = descs ks := by
  have : (ks.attach.map fun k => k.1.desc) = ks.map fun k => k.desc := by
    rw [List.attach_map_val (l := ks) (f := fun k => k.desc)]
  rw [this]
  unfold descs
  clear this
  induction ks with
  | nil => rfl
  | cons k ks ih => simp; omega

theorem Cd.desc_eq (c : Cd) : c.desc = descs c.kids := by
  cases c with
  | mk o t p x ks =>
    rw [Cd.desc, Cd.kids]
    exact sum_attach ks

theorem descs_take_succ {ks : List Cd} {k : Nat} {x : Cd} (h : ks[k]? = some x) : descs (ks.take (k + 1)) = descs (ks.take k) + (descs x.kids + 1) := by
  unfold descs
  rw [List.take_add_one, h, List.map_append, List.sum_append, ← descs]
  simp only [Option.toList_some, List.map_cons, List.map_nil, List.sum_cons, List.sum_nil]
  rw [Cd.desc_eq]
  rfl

theorem descs_take_le (ks : List Cd) (k : Nat) : descs (ks.take k) ≤ descs ks := by
  have : descs ks = descs (ks.take k) + descs (ks.drop k) := by
    unfold descs
    rw [← List.sum_append, ← List.map_append, List.take_append_drop]
  omega

theorem descs_kid {ks : List Cd} {k : Nat} {x : Cd} (h : ks[k]? = some x) : descs (ks.take k) + (descs x.kids + 1) ≤ descs ks := by
  rw [← descs_take_succ h]; exact descs_take_le _ _

theorem length_le_descs (ks : List Cd) : ks.length ≤ descs ks := by
  unfold descs
  induction ks with
  | nil => simp
  | cons k ks ih => simp; omega

theorem descs_mem {ks : List Cd} {x : Cd} (h : x ∈ ks) : descs x.kids + 1 ≤ descs ks := by
  obtain ⟨k, hk⟩ := List.getElem?_of_mem h
  have := descs_kid hk; omega

/-- What a test hands back. -/
def RetIff (w : World) (p : Prop) (e : Ending) (w' : World) : Prop := ∃ b : Bool, e = .returned (.bool b) ∧ (b = true ↔ p) ∧ Below w.heap.size w w'

end Go.Proofs.Ytpnmphfdfadlcaa
