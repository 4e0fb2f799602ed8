/-
  The laws' own functions on programs: copy, mark, held. No condition but bounds on lengths.
-/
import Derived.Test.YtpbmlppdmdmfkaaGreatDoorZd00
namespace Go.Proofs.YtpbmlppdmdmfkaaGreatDoor
open Go.RowKit

/-- A condition. -/
inductive Cd where
  | mk (op th pl val : Int) (kids : List Cd)

def Cd.op : Cd → Int
  | .mk o _ _ _ _ => o
def Cd.th : Cd → Int
  | .mk _ t _ _ _ => t
def Cd.pl : Cd → Int
  | .mk _ _ p _ _ => p
def Cd.val : Cd → Int
  | .mk _ _ _ x _ => x
def Cd.kids : Cd → List Cd
  | .mk _ _ _ _ k => k

theorem Cd.eta (c : Cd) : Cd.mk c.op c.th c.pl c.val c.kids = c := by cases c; rfl

/-- What holds of all lists of conditions. -/
theorem Cd.all {P : List Cd → Prop} (h : ∀ ks, (∀ c ∈ ks, P c.kids) → P ks) (ks : List Cd) : P ks := by
  apply h
  induction ks with
  | nil => intro c hc; simp at hc
  | cons c ks ih =>
    intro d hd
    have hc : P c.kids := by
      refine Cd.rec (motive_1 := fun c => P c.kids) (motive_2 := fun l => ∀ c ∈ l, P c.kids) ?_ ?_ ?_ c
      · intro o t p x l hl; exact h l hl
      · intro c hc; simp at hc
      · intro a l ha hl c hc
        rcases List.mem_cons.1 hc with rfl | hc
        · exact ha
        · exact hl c hc
    rcases List.mem_cons.1 hd with rfl | hd
    · exact hc
    · exact ih d hd

/-- A condition as it lies: its numbers and the slice of its parts. -/
structure Cs where
  op : Int
  th : Int
  pl : Int
  val : Int
  s : Slc

abbrev Cs.v (u : Cs) : Value := .agg #[.int .i64 u.op, .int .i64 u.th, .int .i64 u.pl, .int .i64 u.val, .slice u.s.a u.s.n u.s.cap]
def CsE : El Cs := ⟨5, by decide, fun x => [.int .i64 x.op, .int .i64 x.th, .int .i64 x.pl, .int .i64 x.val, .slice x.s.a x.s.n x.s.cap], fun _ => rfl, fun x u h => by simp at h; rcases h with rfl | rfl | rfl | rfl | rfl <;> rfl⟩

theorem cell_of_block {w w' : World} {b : Nat} (h : w'.heap[b]? = w.heap[b]?) (o : Nat) : w'.cell? ⟨b, o, none⟩ = w.cell? ⟨b, o, none⟩ := by
  unfold World.cell?
  rw [h]

/-- What is read of a slice hangs on the blocks from lo on. -/
def From (lo : Nat) {α : Type} (s : Slc) (us : List α) : Prop := us = [] ∨ ∀ b o, s.a = some ⟨b, o, none⟩ → lo ≤ b

/-- u reads as the condition c, in blocks from lo on. -/
inductive RepC (lo : Nat) (w : World) : Cs → Cd → Prop
  | mk {o t p x : Int} {s : Slc} {us : List Cs} {ks : List Cd} (h1 : us.length = ks.length) (h2 : Rep CsE w s.v us) (h3 : From lo s us)
      (h4 : ∀ (i : Nat) (u : Cs) (k : Cd), us[i]? = some u → ks[i]? = some k → RepC lo w u k) : RepC lo w ⟨o, t, p, x, s⟩ (.mk o t p x ks)

/-- s reads as the conditions ks, in blocks from lo on. -/
def RepK (lo : Nat) (w : World) (s : Slc) (ks : List Cd) : Prop :=
  ∃ us : List Cs, us.length = ks.length ∧ Rep CsE w s.v us ∧ From lo s us ∧ ∀ (i : Nat) (u : Cs) (k : Cd), us[i]? = some u → ks[i]? = some k → RepC lo w u k

theorem RepC.kids {lo : Nat} {w : World} {u : Cs} {c : Cd} (h : RepC lo w u c) : u.op = c.op ∧ u.th = c.th ∧ u.pl = c.pl ∧ u.val = c.val ∧ RepK lo w u.s c.kids := by
  cases h with
  | mk h1 h2 h3 h4 => exact ⟨rfl, rfl, rfl, rfl, _, h1, h2, h3, h4⟩

theorem RepK.cond {lo : Nat} {w : World} {s : Slc} {ks : List Cd} (h : RepK lo w s ks) (o t p x : Int) : RepC lo w ⟨o, t, p, x, s⟩ (.mk o t p x ks) := by
  obtain ⟨us, h1, h2, h3, h4⟩ := h
  exact .mk h1 h2 h3 h4

theorem Rep.from {lo : Nat} {w w' : World} {s : Slc} {us : List Cs} (h : Rep CsE w s.v us) (hf : From lo s us) (hk : ∀ q, lo ≤ q → q < w.heap.size → w'.heap[q]? = w.heap[q]?) : Rep CsE w' s.v us := by
  obtain ⟨a, c, hv, h1, h2, h⟩ := h
  refine ⟨a, c, hv, h1, h2, fun i x hx => ?_⟩
  obtain ⟨b, o, rfl, hi⟩ := h i x hx
  refine ⟨b, o, rfl, fun j u hu => ?_⟩
  have hc := hi j u hu
  rw [← hc]
  refine cell_of_block (hk b ?_ (lt_of_cell hc)) _
  rcases hf with rfl | hf
  · simp at hx
  · simp only [Slc.v, Value.slice.injEq] at hv
    exact hf b o hv.1

theorem RepC.keep {lo : Nat} {w w' : World} {u : Cs} {c : Cd} (h : RepC lo w u c) (hk : ∀ q, lo ≤ q → q < w.heap.size → w'.heap[q]? = w.heap[q]?) : RepC lo w' u c := by
  induction h with
  | mk h1 h2 h3 h4 ih => exact .mk h1 (h2.from h3 hk) h3 ih

theorem RepC.low {lo lo' : Nat} {w : World} {u : Cs} {c : Cd} (h : RepC lo w u c) (hl : lo' ≤ lo) : RepC lo' w u c := by
  induction h with
  | mk h1 h2 h3 h4 ih =>
    refine .mk h1 h2 ?_ ih
    rcases h3 with h3 | h3
    · exact .inl h3
    · exact .inr fun b o e => Nat.le_trans hl (h3 b o e)

theorem RepK.keep {lo : Nat} {w w' : World} {s : Slc} {ks : List Cd} (h : RepK lo w s ks) (hk : ∀ q, lo ≤ q → q < w.heap.size → w'.heap[q]? = w.heap[q]?) : RepK lo w' s ks := by
  obtain ⟨us, h1, h2, h3, h4⟩ := h
  exact ⟨us, h1, h2.from h3 hk, h3, fun i u k hu hk' => (h4 i u k hu hk').keep hk⟩

theorem RepK.low {lo lo' : Nat} {w : World} {s : Slc} {ks : List Cd} (h : RepK lo w s ks) (hl : lo' ≤ lo) : RepK lo' w s ks := by
  obtain ⟨us, h1, h2, h3, h4⟩ := h
  refine ⟨us, h1, h2, ?_, fun i u k hu hk' => (h4 i u k hu hk').low hl⟩
  rcases h3 with h3 | h3
  · exact .inl h3
  · exact .inr fun b o e => Nat.le_trans hl (h3 b o e)

theorem RepK.below {lo : Nat} {w w' : World} {s : Slc} {ks : List Cd} (h : RepK lo w s ks) (hb : Below w.heap.size w w') : RepK lo w' s ks := h.keep fun q _ hq => hb.block q hq
theorem RepC.belowW {lo : Nat} {w w' : World} {u : Cs} {c : Cd} (h : RepC lo w u c) (hb : Below w.heap.size w w') : RepC lo w' u c := h.keep fun q _ hq => hb.block q hq

theorem RepK.nil (lo : Nat) (w : World) : RepK lo w ⟨none, 0, 0⟩ [] := ⟨[], rfl, Rep.nil w, .inl rfl, fun i u k h => by simp at h⟩

theorem RepK.open {lo : Nat} {w : World} {s : Slc} {ks : List Cd} (h : RepK lo w s ks) : s.n = ks.length ∧ ks.length ≤ s.cap ∧ ks.length ≤ 9223372036854775807 ∧ s.cap ≤ maxLen := by
  obtain ⟨us, h1, h2, h3, h4⟩ := h
  obtain ⟨a, c, hv, h5, h6, h7, _⟩ := h2.open
  simp only [Slc.v, Value.slice.injEq] at hv
  obtain ⟨_, e2, e3⟩ := hv
  rw [e2, e3]; omega

/-- What the walk asks of part k. -/
theorem RepK.kid {lo : Nat} {w : World} {a : Option Addr} {n c : Nat} {ks : List Cd} (h : RepK lo w ⟨a, n, c⟩ ks) {k : Nat} {x : Cd} (hx : ks[k]? = some x) :
    ∃ (b o : Nat) (s : Slc), a = some ⟨b, o, none⟩ ∧ b < w.heap.size ∧ w.cell? ⟨b, o + k * 5, none⟩ = some (.int .i64 x.op) ∧ w.cell? ⟨b, o + k * 5 + 1, none⟩ = some (.int .i64 x.th) ∧
      w.cell? ⟨b, o + k * 5 + 2, none⟩ = some (.int .i64 x.pl) ∧ w.cell? ⟨b, o + k * 5 + 3, none⟩ = some (.int .i64 x.val) ∧ w.cell? ⟨b, o + k * 5 + 4, none⟩ = some (.slice s.a s.n s.cap) ∧ RepK lo w s x.kids := by
  obtain ⟨us, h1, h2, h3, h4⟩ := h
  obtain ⟨u, hu⟩ := get_of_lt (xs := us) (k := k) (by rw [h1]; exact (List.getElem?_eq_some_iff.1 hx).1)
  obtain ⟨e1, e2, e3, e4, hk⟩ := (h4 k u x hu hx).kids
  obtain ⟨a', c', hv, _, _, h⟩ := h2
  simp only [Slc.v, Value.slice.injEq] at hv
  obtain ⟨rfl, _, _⟩ := hv
  obtain ⟨b, o, rfl, h'⟩ := h k u hu
  rw [← e1, ← e2, ← e3, ← e4]
  exact ⟨b, o, u.s, rfl, lt_of_cell (h' 0 _ rfl), h' 0 _ rfl, h' 1 _ rfl, h' 2 _ rfl, h' 3 _ rfl, h' 4 _ rfl, hk⟩

/-- The number of all parts, without the root. -/
def Cd.desc : Cd → Nat
  | .mk _ _ _ _ ks => ks.length + (ks.attach.map fun ⟨k, _⟩ => k.desc).sum
termination_by c => SizeOf.sizeOf c
decreasing_by
  have := List.sizeOf_lt_of_mem ‹_›
  simp; omega

def descs (ks : List Cd) : Nat := (ks.map fun k => k.desc + 1).sum

theorem sum_attach (ks : List Cd) : ks.length + (ks.attach.map fun k => k.1.desc).sum = descs ks := by
  have : (ks.attach.map fun k => k.1.desc) = ks.map fun k => k.desc := by
    rw [List.attach_map_val (l := ks) (f := fun k => k.desc)]
  rw [this]
  unfold descs
  clear this
  induction ks with
  | nil => rfl
  | cons k ks ih => simp; omega

theorem Cd.desc_eq (c : Cd) : c.desc = descs c.kids := by
  cases c with
  | mk o t p x ks =>
    rw [Cd.desc, Cd.kids]
    exact sum_attach ks

theorem descs_take_succ {ks : List Cd} {k : Nat} {x : Cd} (h : ks[k]? = some x) : descs (ks.take (k + 1)) = descs (ks.take k) + (descs x.kids + 1) := by
  unfold descs
  rw [List.take_add_one, h, List.map_append, List.sum_append, ← descs]
  simp only [Option.toList_some, List.map_cons, List.map_nil, List.sum_cons, List.sum_nil]
  rw [Cd.desc_eq]
  rfl

theorem descs_take_le (ks : List Cd) (k : Nat) : descs (ks.take k) ≤ descs ks := by
  have : descs ks = descs (ks.take k) + descs (ks.drop k) := by
    unfold descs
    rw [← List.sum_append, ← List.map_append, List.take_append_drop]
  omega

theorem descs_kid {ks : List Cd} {k : Nat} {x : Cd} (h : ks[k]? = some x) : descs (ks.take k) + (descs x.kids + 1) ≤ descs ks := by
  rw [← descs_take_succ h]; exact descs_take_le _ _

theorem length_le_descs (ks : List Cd) : ks.length ≤ descs ks := by
  unfold descs
  induction ks with
  | nil => simp
  | cons k ks ih => simp; omega

theorem descs_mem {ks : List Cd} {x : Cd} (h : x ∈ ks) : descs x.kids + 1 ≤ descs ks := by
  obtain ⟨k, hk⟩ := List.getElem?_of_mem h
  have := descs_kid hk; omega

/-- What a test hands back. -/
def RetIff (w : World) (p : Prop) (e : Ending) (w' : World) : Prop := ∃ b : Bool, e = .returned (.bool b) ∧ (b = true ↔ p) ∧ Below w.heap.size w w'

end Go.Proofs.YtpbmlppdmdmfkaaGreatDoor

namespace Go.Proofs.YtpbmlppdmdmfkaaGreatDoor
open Go.RowKit

/-- A condition. -/
inductive Re where
  | mk (op : Int) (nm : ByteArray) (kids : List Re)

def Re.op : Re → Int
  | .mk o _ _ => o
def Re.nm : Re → ByteArray
  | .mk _ p _ => p
def Re.kids : Re → List Re
  | .mk _ _ k => k

theorem Re.eta (c : Re) : Re.mk c.op c.nm c.kids = c := by cases c; rfl

/-- What holds of all lists of conditions. -/
theorem Re.all {P : List Re → Prop} (h : ∀ ks, (∀ c ∈ ks, P c.kids) → P ks) (ks : List Re) : P ks := by
  apply h
  induction ks with
  | nil => intro c hc; simp at hc
  | cons c ks ih =>
    intro d hd
    have hc : P c.kids := by
      refine Re.rec (motive_1 := fun c => P c.kids) (motive_2 := fun l => ∀ c ∈ l, P c.kids) ?_ ?_ ?_ c
      · intro o p l hl; exact h l hl
      · intro c hc; simp at hc
      · intro a l ha hl c hc
        rcases List.mem_cons.1 hc with rfl | hc
        · exact ha
        · exact hl c hc
    rcases List.mem_cons.1 hd with rfl | hd
    · exact hc
    · exact ih d hd

/-- A condition as it lies: its numbers and the slice of its parts. -/
structure Rs where
  op : Int
  nm : ByteArray
  s : Slc

abbrev Rs.v (u : Rs) : Value := .agg #[.int .i64 u.op, .string u.nm, .slice u.s.a u.s.n u.s.cap]
def RsE : El Rs := ⟨3, by decide, fun x => [.int .i64 x.op, .string x.nm, .slice x.s.a x.s.n x.s.cap], fun _ => rfl, fun x u h => by simp at h; rcases h with rfl | rfl | rfl <;> rfl⟩

/-- u reads as the condition c, in blocks from lo on. -/
inductive RepRe (lo : Nat) (w : World) : Rs → Re → Prop
  | mk {o : Int} {p : ByteArray} {s : Slc} {us : List Rs} {ks : List Re} (h1 : us.length = ks.length) (h2 : Rep RsE w s.v us) (h3 : From lo s us)
      (h4 : ∀ (i : Nat) (u : Rs) (k : Re), us[i]? = some u → ks[i]? = some k → RepRe lo w u k) : RepRe lo w ⟨o, p, s⟩ (.mk o p ks)

/-- s reads as the conditions ks, in blocks from lo on. -/
def RepRk (lo : Nat) (w : World) (s : Slc) (ks : List Re) : Prop :=
  ∃ us : List Rs, us.length = ks.length ∧ Rep RsE w s.v us ∧ From lo s us ∧ ∀ (i : Nat) (u : Rs) (k : Re), us[i]? = some u → ks[i]? = some k → RepRe lo w u k

theorem RepRe.kids {lo : Nat} {w : World} {u : Rs} {c : Re} (h : RepRe lo w u c) : u.op = c.op ∧ u.nm = c.nm ∧ RepRk lo w u.s c.kids := by
  cases h with
  | mk h1 h2 h3 h4 => exact ⟨rfl, rfl, _, h1, h2, h3, h4⟩

theorem RepRk.cond {lo : Nat} {w : World} {s : Slc} {ks : List Re} (h : RepRk lo w s ks) (o : Int) (p : ByteArray) : RepRe lo w ⟨o, p, s⟩ (.mk o p ks) := by
  obtain ⟨us, h1, h2, h3, h4⟩ := h
  exact .mk h1 h2 h3 h4

theorem Rep.fromR {lo : Nat} {w w' : World} {s : Slc} {us : List Rs} (h : Rep RsE w s.v us) (hf : From lo s us) (hk : ∀ q, lo ≤ q → q < w.heap.size → w'.heap[q]? = w.heap[q]?) : Rep RsE w' s.v us := by
  obtain ⟨a, c, hv, h1, h2, h⟩ := h
  refine ⟨a, c, hv, h1, h2, fun i x hx => ?_⟩
  obtain ⟨b, o, rfl, hi⟩ := h i x hx
  refine ⟨b, o, rfl, fun j u hu => ?_⟩
  have hc := hi j u hu
  rw [← hc]
  refine cell_of_block (hk b ?_ (lt_of_cell hc)) _
  rcases hf with rfl | hf
  · simp at hx
  · simp only [Slc.v, Value.slice.injEq] at hv
    exact hf b o hv.1

theorem RepRe.keep {lo : Nat} {w w' : World} {u : Rs} {c : Re} (h : RepRe lo w u c) (hk : ∀ q, lo ≤ q → q < w.heap.size → w'.heap[q]? = w.heap[q]?) : RepRe lo w' u c := by
  induction h with
  | mk h1 h2 h3 h4 ih => exact .mk h1 (h2.fromR h3 hk) h3 ih

theorem RepRe.low {lo lo' : Nat} {w : World} {u : Rs} {c : Re} (h : RepRe lo w u c) (hl : lo' ≤ lo) : RepRe lo' w u c := by
  induction h with
  | mk h1 h2 h3 h4 ih =>
    refine .mk h1 h2 ?_ ih
    rcases h3 with h3 | h3
    · exact .inl h3
    · exact .inr fun b o e => Nat.le_trans hl (h3 b o e)

theorem RepRk.keep {lo : Nat} {w w' : World} {s : Slc} {ks : List Re} (h : RepRk lo w s ks) (hk : ∀ q, lo ≤ q → q < w.heap.size → w'.heap[q]? = w.heap[q]?) : RepRk lo w' s ks := by
  obtain ⟨us, h1, h2, h3, h4⟩ := h
  exact ⟨us, h1, h2.fromR h3 hk, h3, fun i u k hu hk' => (h4 i u k hu hk').keep hk⟩

theorem RepRk.low {lo lo' : Nat} {w : World} {s : Slc} {ks : List Re} (h : RepRk lo w s ks) (hl : lo' ≤ lo) : RepRk lo' w s ks := by
  obtain ⟨us, h1, h2, h3, h4⟩ := h
  refine ⟨us, h1, h2, ?_, fun i u k hu hk' => (h4 i u k hu hk').low hl⟩
  rcases h3 with h3 | h3
  · exact .inl h3
  · exact .inr fun b o e => Nat.le_trans hl (h3 b o e)

theorem RepRk.below {lo : Nat} {w w' : World} {s : Slc} {ks : List Re} (h : RepRk lo w s ks) (hb : Below w.heap.size w w') : RepRk lo w' s ks := h.keep fun q _ hq => hb.block q hq
theorem RepRe.belowW {lo : Nat} {w w' : World} {u : Rs} {c : Re} (h : RepRe lo w u c) (hb : Below w.heap.size w w') : RepRe lo w' u c := h.keep fun q _ hq => hb.block q hq

theorem RepRk.nil (lo : Nat) (w : World) : RepRk lo w ⟨none, 0, 0⟩ [] := ⟨[], rfl, Rep.nil w, .inl rfl, fun i u k h => by simp at h⟩

theorem RepRk.open {lo : Nat} {w : World} {s : Slc} {ks : List Re} (h : RepRk lo w s ks) : s.n = ks.length ∧ ks.length ≤ s.cap ∧ ks.length ≤ 9223372036854775807 ∧ s.cap ≤ maxLen := by
  obtain ⟨us, h1, h2, h3, h4⟩ := h
  obtain ⟨a, c, hv, h5, h6, h7, _⟩ := h2.open
  simp only [Slc.v, Value.slice.injEq] at hv
  obtain ⟨_, e2, e3⟩ := hv
  rw [e2, e3]; omega

/-- What the walk asks of part k. -/
theorem RepRk.kid {lo : Nat} {w : World} {a : Option Addr} {n c : Nat} {ks : List Re} (h : RepRk lo w ⟨a, n, c⟩ ks) {k : Nat} {x : Re} (hx : ks[k]? = some x) :
    ∃ (b o : Nat) (s : Slc), a = some ⟨b, o, none⟩ ∧ b < w.heap.size ∧ w.cell? ⟨b, o + k * 3, none⟩ = some (.int .i64 x.op) ∧ w.cell? ⟨b, o + k * 3 + 1, none⟩ = some (.string x.nm) ∧ w.cell? ⟨b, o + k * 3 + 2, none⟩ = some (.slice s.a s.n s.cap) ∧ RepRk lo w s x.kids := by
  obtain ⟨us, h1, h2, h3, h4⟩ := h
  obtain ⟨u, hu⟩ := get_of_lt (xs := us) (k := k) (by rw [h1]; exact (List.getElem?_eq_some_iff.1 hx).1)
  obtain ⟨e1, e2, hk⟩ := (h4 k u x hu hx).kids
  obtain ⟨a', c', hv, _, _, h⟩ := h2
  simp only [Slc.v, Value.slice.injEq] at hv
  obtain ⟨rfl, _, _⟩ := hv
  obtain ⟨b, o, rfl, h'⟩ := h k u hu
  rw [← e1, ← e2]
  exact ⟨b, o, u.s, rfl, lt_of_cell (h' 0 _ rfl), h' 0 _ rfl, h' 1 _ rfl, h' 2 _ rfl, hk⟩

/-- The number of all parts, without the root. -/
def Re.desc : Re → Nat
  | .mk _ _ ks => ks.length + (ks.attach.map fun ⟨k, _⟩ => k.desc).sum
termination_by c => SizeOf.sizeOf c
decreasing_by
  have := List.sizeOf_lt_of_mem ‹_›
  simp; omega

def descR (ks : List Re) : Nat := (ks.map fun k => k.desc + 1).sum

theorem sum_attachR (ks : List Re) : ks.length + (ks.attach.map fun k => k.1.desc).sum = descR ks := by
  have : (ks.attach.map fun k => k.1.desc) = ks.map fun k => k.desc := by
    rw [List.attach_map_val (l := ks) (f := fun k => k.desc)]
  rw [this]
  unfold descR
  clear this
  induction ks with
  | nil => rfl
  | cons k ks ih => simp; omega

theorem Re.desc_eq (c : Re) : c.desc = descR c.kids := by
  cases c with
  | mk o p ks =>
    rw [Re.desc, Re.kids]
    exact sum_attachR ks

theorem descR_take_succ {ks : List Re} {k : Nat} {x : Re} (h : ks[k]? = some x) : descR (ks.take (k + 1)) = descR (ks.take k) + (descR x.kids + 1) := by
  unfold descR
  rw [List.take_add_one, h, List.map_append, List.sum_append, ← descR]
  simp only [Option.toList_some, List.map_cons, List.map_nil, List.sum_cons, List.sum_nil]
  rw [Re.desc_eq]
  rfl

theorem descR_take_le (ks : List Re) (k : Nat) : descR (ks.take k) ≤ descR ks := by
  have : descR ks = descR (ks.take k) + descR (ks.drop k) := by
    unfold descR
    rw [← List.sum_append, ← List.map_append, List.take_append_drop]
  omega

theorem descR_kid {ks : List Re} {k : Nat} {x : Re} (h : ks[k]? = some x) : descR (ks.take k) + (descR x.kids + 1) ≤ descR ks := by
  rw [← descR_take_succ h]; exact descR_take_le _ _

theorem length_le_descR (ks : List Re) : ks.length ≤ descR ks := by
  unfold descR
  induction ks with
  | nil => simp
  | cons k ks ih => simp; omega

theorem descR_mem {ks : List Re} {x : Re} (h : x ∈ ks) : descR x.kids + 1 ≤ descR ks := by
  obtain ⟨k, hk⟩ := List.getElem?_of_mem h
  have := descR_kid hk; omega

end Go.Proofs.YtpbmlppdmdmfkaaGreatDoor

namespace Go.Proofs.YtpbmlppdmdmfkaaGreatDoor

/-- The names of relations. -/
def nameTab : List ByteArray := [⟨#[112, 111]⟩, ⟨#[108, 111, 99]⟩, ⟨#[101, 120, 116]⟩, ⟨#[114, 102]⟩, ⟨#[99, 111]⟩, ⟨#[102, 114]⟩, ⟨#[102, 101, 110, 99, 101]⟩, ⟨#[119, 114]⟩, ⟨#[119, 119]⟩, ⟨#[105, 100]⟩]
def isName (p : ByteArray) : Bool := nameTab.any fun s => p.toList == s.toList
def kidsO (o : Int) : Int := if o = 1 then 0 else if o = 2 ∨ o = 3 ∨ o = 4 ∨ o = 5 then 2 else if o = 6 ∨ o = 7 then 1 else -1
/-- The fields of a node are right; it has n parts. -/
def nodeO (o : Int) (p : ByteArray) (n : Nat) : Bool := ((n : Int) == kidsO o) && (((o == 1) == isName p) && (o == 1 || (p.toList == [])))
def nodeE (c : Re) : Bool := nodeO c.op c.nm c.kids.length
def shapeR : Nat → Re → Bool
  | 0, _ => false
  | d + 1, c => nodeE c && c.kids.all (shapeR d)
def nodesR (c : Re) : Nat := descR c.kids + 1
def validR (c : Re) : Bool := shapeR 12 c && decide (nodesR c ≤ 40)

theorem shapeR_succ (d : Nat) (c : Re) : shapeR (d + 1) c = true ↔ nodeE c = true ∧ ∀ k ∈ c.kids, shapeR d k = true := by
  simp [shapeR]

theorem nodeE_kids {c : Re} (h : nodeE c = true) : c.kids.length ≤ 2 := by
  unfold nodeE nodeO kidsO at h
  simp only [Bool.and_eq_true, beq_iff_eq] at h
  have h1 := h.1
  split at h1
  · omega
  · split at h1
    · omega
    · split at h1 <;> omega

/-- What the size of a condition says: r is its number of nodesR, or more than 40 where it is not right. -/
structure SzR (d : Nat) (c : Re) (r : Int) : Prop where
  low : 1 ≤ r
  high : r ≤ 41 + 40 * d
  iff : r ≤ 40 ↔ (shapeR d c = true ∧ nodesR c ≤ 40)
  eq : r ≤ 40 → r = nodesR c

theorem SzR.bad0 (c : Re) : SzR 0 c 41 := ⟨by omega, by omega, by simp [shapeR], by omega⟩
theorem SzR.bad {d : Nat} {c : Re} (h : nodeE c = false) : SzR (d + 1) c 41 := ⟨by omega, by omega, by
  constructor
  · intro h; omega
  · rintro ⟨h1, _⟩
    rw [shapeR_succ, h] at h1
    simp at h1, by omega⟩

/-- So many parts are counted and right. -/
structure SzRTo (d : Nat) (ks : List Re) (k : Nat) (r : Int) : Prop where
  eq : r = 1 + descR (ks.take k)
  le : r ≤ 40
  all : ∀ c ∈ ks.take k, shapeR d c = true

theorem SzRTo.zero (d : Nat) (ks : List Re) : SzRTo d ks 0 1 := ⟨by simp [descR], by omega, by simp⟩
theorem SzRTo.low {d : Nat} {ks : List Re} {k : Nat} {r : Int} (h : SzRTo d ks k r) : 1 ≤ r := by have := h.eq; omega

theorem SzRTo.next {d : Nat} {ks : List Re} {k : Nat} {r r' : Int} {x : Re} (h : SzRTo d ks k r) (hx : ks[k]? = some x) (hr : SzR d x r') (hle : r + r' ≤ 40) : SzRTo d ks (k + 1) (r + r') := by
  have h1 := h.low
  have h2 := hr.eq (by omega)
  obtain ⟨h3, h4⟩ := hr.iff.1 (by omega)
  refine ⟨?_, hle, ?_⟩
  · rw [descR_take_succ hx, h.eq, h2]; unfold nodesR; omega
  · intro c hc
    rw [List.take_add_one, hx] at hc
    simp at hc
    rcases hc with hc | rfl
    · exact h.all c hc
    · exact h3

theorem SzRTo.more {d : Nat} {c : Re} {k : Nat} {r r' : Int} {x : Re} (h : SzRTo d c.kids k r) (hx : c.kids[k]? = some x) (hr : SzR d x r') (hgt : ¬ r + r' ≤ 40) : SzR (d + 1) c (r + r') := by
  have h1 := h.low
  have h0 := hr.low
  have h5 := hr.high
  refine ⟨by omega, by have := h.le; omega, ⟨fun h => absurd h hgt, ?_⟩, fun h => absurd h hgt⟩
  rintro ⟨hs, hn⟩
  exfalso
  apply hgt
  rw [shapeR_succ] at hs
  have hm := List.mem_of_getElem? hx
  have hk := descR_kid hx
  have h6 := hr.iff.2 ⟨hs.2 x hm, by unfold nodesR at hn ⊢; omega⟩
  have h7 := hr.eq h6
  rw [h.eq, h7]
  unfold nodesR at hn ⊢; omega

theorem SzRTo.done {d : Nat} {c : Re} {k : Nat} {r : Int} (h : SzRTo d c.kids k r) (hn : nodeE c = true) (hk : c.kids.length ≤ k) : SzR (d + 1) c r := by
  have h1 := h.low
  have h2 := h.le
  have h3 := h.eq
  have h4 := h.all
  rw [List.take_of_length_le hk] at h3 h4
  exact ⟨h1, by omega, ⟨fun _ => ⟨(shapeR_succ d c).2 ⟨hn, h4⟩, by unfold nodesR; omega⟩, fun _ => h2⟩, fun _ => by unfold nodesR; omega⟩

theorem SzR.valid {c : Re} {r : Int} (h : SzR 12 c r) : decide (r ≤ 40) = validR c := by
  unfold validR
  rw [Bool.eq_iff_iff]
  simp [h.iff]

/-- What a count up to a number says. -/
structure CnR (c : Re) (m r : Int) : Prop where
  low : 1 ≤ r
  high : r ≤ nodesR c
  eq : r ≤ m → r = nodesR c

/-- So many parts are counted. -/
structure CnRTo (ks : List Re) (m : Int) (k : Nat) (r : Int) : Prop where
  low : 1 ≤ r
  high : r ≤ 1 + descR (ks.take k)
  eq : r ≤ m → r = 1 + descR (ks.take k)

theorem CnRTo.zero (ks : List Re) (m : Int) : CnRTo ks m 0 1 := ⟨by omega, by omega, fun _ => by simp [descR]⟩
theorem CnRTo.next {ks : List Re} {m : Int} {k : Nat} {r r' : Int} {x : Re} (h : CnRTo ks m k r) (hx : ks[k]? = some x) (hm : r ≤ m) (hr : CnR x (m - r) r') : CnRTo ks m (k + 1) (r + r') := by
  have h1 := h.low; have h2 := h.high; have h3 := h.eq hm
  have h4 := hr.low; have h5 := hr.high
  unfold nodesR at h5
  refine ⟨by omega, by rw [descR_take_succ hx]; omega, fun hle => ?_⟩
  have := hr.eq (by omega)
  unfold nodesR at this
  rw [descR_take_succ hx]; omega

theorem CnRTo.done {c : Re} {m : Int} {k : Nat} {r : Int} (h : CnRTo c.kids m k r) (hk : c.kids.length ≤ k ∨ ¬ r ≤ m) : CnR c m r := by
  have h1 := h.low; have h2 := h.high; have h3 := descR_take_le c.kids k
  refine ⟨h1, by unfold nodesR; omega, fun hm => ?_⟩
  rcases hk with hk | hk
  · have := h.eq hm
    rw [List.take_of_length_le hk] at this
    unfold nodesR; omega
  · exact absurd hm hk

theorem CnR.le {c : Re} {r : Int} (h : CnR c 40 r) : decide (r ≤ 40) = decide (nodesR c ≤ 40) := by
  have h1 := h.high
  rw [Bool.eq_iff_iff]
  simp only [decide_eq_true_eq]
  constructor
  · intro hr; have := h.eq hr; omega
  · intro hn; omega

end Go.Proofs.YtpbmlppdmdmfkaaGreatDoor

namespace Go.Proofs.YtpbmlppdmdmfkaaGreatDoor
open Go.RowKit

theorem Tryz.infoIns : (Tryz.prog.info? 84).map (fun i => (i.zero, i.size, i.bytes)) = some (some (.agg #[.int .i64 0, .int .i64 0, .int .i64 0, .int .i64 0]), 4, 32) := by kernel_rfl
theorem Tryz.infoInsS : (Tryz.prog.info? 82).map (fun i => (i.zero, i.size, i.bytes)) = some (some (.slice none 0 0), 1, 24) := by kernel_rfl

abbrev OwnI (w : World) (base : Nat) (v : Value) (xs : List Ins) : Prop := Own InsE 84 w base v xs
abbrev OwnP (w : World) (base : Nat) (v : Value) (p : List (List Ins)) : Prop := Own2 InsE 82 84 w base v p
abbrev RepP (w : World) (v : Value) (p : List (List Ins)) : Prop := Rep2 InsE w v p

theorem toInstr_any (x : Ins) (w : World) :
    Calls Tryz.prog 170 #[x.v] w fun e w' => e = .returned x.v ∧ Below w.heap.size w w' := by
  obtain ⟨x0, x1, x2, x3⟩ := x
  go_enter Tryz.func170, Tryz.ntmps170
  go_wp2
  refine bodyPost_ret (v := .agg #[.int .i64 x0, .int .i64 x1, .int .i64 x2, .int .i64 x3]) (by simp [results, Tryz.results170, go_sem]) rfl ⟨rfl, ?_⟩
  exact (((Below.refl _ _).alloc (Nat.le_refl _) _).alloc (by simp) _).alloc (by simp; omega) _

theorem eqInstr_any (x y : Ins) (w : World) :
    Calls Tryz.prog 174 #[x.v, y.v] w fun e w' => e = .returned (.bool (decide (x = y))) ∧ Below w.heap.size w w' := by
  obtain ⟨x0, x1, x2, x3⟩ := x
  obtain ⟨y0, y1, y2, y3⟩ := y
  rw [show decide ((⟨x0, x1, x2, x3⟩ : Ins) = ⟨y0, y1, y2, y3⟩) = (x0 == y0 && x1 == y1 && x2 == y2 && x3 == y3) by rw [Bool.eq_iff_iff]; simp [and_assoc]]
  go_enter Tryz.func174, Tryz.ntmps174
  go_wp2
  all_goals go_ret
  all_goals refine ⟨?_, ((Below.refl _ _).alloc (Nat.le_refl _) _).alloc (by simp) _⟩
  all_goals simp_all

set_option maxHeartbeats 400000 in
theorem eqInstrS_any (v v' : Value) (xs ys : List Ins) (w : World) (hx : Rep InsE w v xs) (hy : Rep InsE w v' ys) :
    Calls Tryz.prog 85 #[v, v'] w fun e w' => e = .returned (.bool (decide (xs = ys))) ∧ Below w.heap.size w w' := by
  obtain ⟨a, c, rfl, hc1, hc2, hc3, hx⟩ := hx.open
  obtain ⟨a', c', rfl, hc1', hc2', hc3', hy⟩ := hy.open
  have HX := hide hx; clear hx
  have HY := hide hy; clear hy
  generalize hn : xs.length = n at *
  generalize hn' : ys.length = n' at *
  have H := hide hn; clear hn
  have H' := hide hn'; clear hn'
  by_cases hc : n = n'
  · subst hc
    have hc' : ((n : Int) != n) = false := by simp
    go_enter Tryz.func85, Tryz.ntmps85
    go_wp2_with fail
    go_loopw [5] (fun v wr => ∃ k : Nat, k ≤ n ∧ v = .int .i64 k ∧ Hid (xs.take k = ys.take k) ∧ Below w.heap.size w wr) (fun v _ => n - (intOf v).toNat)
    case atStart => exact ⟨0, Nat.zero_le _, rfl, hide (by simp), Below.refl _ _⟩
    case round =>
      obtain ⟨k, hk, rfl, T, hb⟩ := hrel
      by_cases hlt : k < n
      · obtain ⟨x, hxk⟩ := get_of_lt (xs := xs) (k := k) (by rw [H.out]; exact hlt)
        obtain ⟨y, hyk⟩ := get_of_lt (xs := ys) (k := k) (by rw [H'.out]; exact hlt)
        obtain ⟨b, o, rfl, hbl, i0, i1, i2, i3⟩ := (HX.out.below hb).ins hxk
        obtain ⟨b', o', rfl, hbl', j0, j1, j2, j3⟩ := (HY.out.below hb).ins hyk
        have hlt' := nat_of_lt hlt
        have X := hide hxk; clear hxk
        have Y := hide hyk; clear hyk
        go_wp2_with fail
        refine wp_region_bw (by kernel_rfl) (by kernel_rfl) ?_
        repeat (go_big_quiet_step ((go_at_call 174; exact Calls.bw (eqInstr_any x y _))))
        refine wpQuiet_nil ?_
        intro w1 hb1
        have hb2 := hb.trans (hb1.mono hb.size)
        generalize hd : decide (x = y) = d
        cases d
        · have hq := ne_of_get X.out Y.out (of_decide_eq_false hd)
          clear hd
          go_wp2_with fail
          go_ret
          exact ⟨by simp [hq], hb2⟩
        · have T' := hide (take_eq_succ T.out X.out Y.out (of_decide_eq_true hd))
          clear hd
          go_wp2_with fail
          go_roundw
          case rel => exact ⟨k + 1, by omega, by go_num, T', hb2⟩
          case measure => simp [intOf]; omega
      · have e2 : xs = ys := take_all_eq T.out (by rw [H.out]; omega) (by rw [H'.out]; omega)
        subst e2
        go_wp2_with fail
        go_ret
        exact ⟨by simp, hb⟩
  · have hc' : ((n : Int) != n') = true := by simp; omega
    have hq : xs ≠ ys := fun h => hc (by rw [← H.out, ← H'.out, h])
    go_enter Tryz.func85, Tryz.ntmps85
    go_wp2_with fail
    go_ret
    exact ⟨by simp [hq], Below.refl _ _⟩

set_option maxHeartbeats 400000 in
theorem eqInstrSS_any (v v' : Value) (xs ys : List (List Ins)) (w : World) (hx : RepP w v xs) (hy : RepP w v' ys) :
    Calls Tryz.prog 28 #[v, v'] w fun e w' => e = .returned (.bool (decide (xs = ys))) ∧ Below w.heap.size w w' := by
  obtain ⟨a, c, rfl, hc1, hc2, hc3, hx⟩ := hx.open
  obtain ⟨a', c', rfl, hc1', hc2', hc3', hy⟩ := hy.open
  have HX := hide hx; clear hx
  have HY := hide hy; clear hy
  generalize hn : xs.length = n at *
  generalize hn' : ys.length = n' at *
  have H := hide hn; clear hn
  have H' := hide hn'; clear hn'
  by_cases hc : n = n'
  · subst hc
    have hc' : ((n : Int) != n) = false := by simp
    go_enter Tryz.func28, Tryz.ntmps28
    go_wp2_with fail
    go_loopw [5] (fun v wr => ∃ k : Nat, k ≤ n ∧ v = .int .i64 k ∧ Hid (xs.take k = ys.take k) ∧ Below w.heap.size w wr) (fun v _ => n - (intOf v).toNat)
    case atStart => exact ⟨0, Nat.zero_le _, rfl, hide (by simp), Below.refl _ _⟩
    case round =>
      obtain ⟨k, hk, rfl, T, hb⟩ := hrel
      by_cases hlt : k < n
      · obtain ⟨x, hxk⟩ := get_of_lt (xs := xs) (k := k) (by rw [H.out]; exact hlt)
        obtain ⟨y, hyk⟩ := get_of_lt (xs := ys) (k := k) (by rw [H'.out]; exact hlt)
        obtain ⟨b, o, ra, rc, rfl, hbl, i0, i1⟩ := (HX.out.below hb).row hxk
        obtain ⟨b', o', ra', rc', rfl, hbl', j0, j1⟩ := (HY.out.below hb).row hyk
        have hlt' := nat_of_lt hlt
        have X := hide hxk; clear hxk
        have Y := hide hyk; clear hyk
        have I1 := hide i1; clear i1
        have J1 := hide j1; clear j1
        go_wp2_with fail
        refine wp_region_bw (by kernel_rfl) (by kernel_rfl) ?_
        repeat (go_big_quiet_step ((go_at_call 85; exact Calls.bw (eqInstrS_any _ _ x y _ (I1.out.below (BW.prop _)) (J1.out.below (BW.prop _))))))
        refine wpQuiet_nil ?_
        intro w1 hb1
        have hb2 := hb.trans (hb1.mono hb.size)
        generalize hd : decide (x = y) = d
        cases d
        · have hq := ne_of_get X.out Y.out (of_decide_eq_false hd)
          clear hd
          go_wp2_with fail
          go_ret
          exact ⟨by simp [hq], hb2⟩
        · have T' := hide (take_eq_succ T.out X.out Y.out (of_decide_eq_true hd))
          clear hd
          go_wp2_with fail
          go_roundw
          case rel => exact ⟨k + 1, by omega, by go_num, T', hb2⟩
          case measure => simp [intOf]; omega
      · have e2 : xs = ys := take_all_eq T.out (by rw [H.out]; omega) (by rw [H'.out]; omega)
        subst e2
        go_wp2_with fail
        go_ret
        exact ⟨by simp, hb⟩
  · have hc' : ((n : Int) != n') = true := by simp; omega
    have hq : xs ≠ ys := fun h => hc (by rw [← H.out, ← H'.out, h])
    go_enter Tryz.func28, Tryz.ntmps28
    go_wp2_with fail
    go_ret
    exact ⟨by simp [hq], Below.refl _ _⟩

/-- The size of a thread, taken off what is left. -/
theorem szInstrS_any (a : Option Addr) (n c : Nat) (l : Int) (w : World) (hn : n ≤ 9223372036854775807) (h0 : 0 ≤ l) (h1 : l ≤ 1048576) :
    Calls Tryz.prog 76 #[.slice a n c, .int .i64 l] w fun e w' => e = .returned (.int .i64 (if l - n < 0 then -1 else l - n)) ∧ w = w' := by
  by_cases h : l - n < 0
  · rw [if_pos h]
    go_enter Tryz.func76, Tryz.ntmps76
    go_wp2
    go_ret
    exact ⟨rfl, rfl⟩
  · rw [if_neg h]
    go_enter Tryz.func76, Tryz.ntmps76
    go_wp2
    go_ret
    exact ⟨rfl, rfl⟩

/-- What a program's size leaves, or -1. -/
def szP : List (List Ins) → Int → Int
  | [], l => l
  | r :: p, l => if l - r.length < 0 then -1 else szP p (l - r.length)

theorem szP_le (p : List (List Ins)) (l : Int) (h : 0 ≤ szP p l) : szP p l ≤ l ∧ ∀ r ∈ p, (r.length : Int) ≤ l := by
  induction p generalizing l with
  | nil => simp [szP]
  | cons r p ih =>
    simp only [szP] at h ⊢
    split at h
    · omega
    · rename_i hl
      rw [if_neg hl]
      obtain ⟨h1, h2⟩ := ih _ h
      refine ⟨by omega, fun q hq => ?_⟩
      rcases List.mem_cons.1 hq with rfl | hq
      · omega
      · have := h2 q hq; omega

def szPP (p : List (List Ins)) (l : Int) : Int := if l - p.length < 0 then -1 else szP p (l - p.length)

set_option maxHeartbeats 400000 in
theorem szInstrSS_any (v : Value) (p : List (List Ins)) (l : Int) (w : World) (hp : RepP w v p) (h0 : 0 ≤ l) (h1 : l ≤ 1048576) :
    Calls Tryz.prog 21 #[v, .int .i64 l] w fun e w' => e = .returned (.int .i64 (szPP p l)) ∧ Below w.heap.size w w' := by
  obtain ⟨a, c, rfl, hc1, hc2, hc3, hp⟩ := hp.open
  have HP := hide hp; clear hp
  unfold szPP
  generalize hn : p.length = n at *
  have H := hide hn; clear hn
  by_cases h : l - n < 0
  · rw [if_pos h]
    go_enter Tryz.func21, Tryz.ntmps21
    go_wp2_with fail
    go_ret
    exact ⟨rfl, Below.refl _ _⟩
  · rw [if_neg h]
    go_enter Tryz.func21, Tryz.ntmps21
    go_wp2_with fail
    go_loopw [1, 5] (fun s i wr => ∃ (k : Nat) (q : Int), k ≤ n ∧ i = .int .i64 k ∧ s = .int .i64 q ∧ 0 ≤ q ∧ q ≤ 1048576 ∧ Hid (szP (p.drop k) q = szP p (l - n)) ∧ Below w.heap.size w wr) (fun _ i _ => n - (intOf i).toNat)
    case atStart => exact ⟨0, _, Nat.zero_le _, rfl, rfl, by omega, by omega, hide (by simp), Below.refl _ _⟩
    case round =>
      obtain ⟨k, q, hk, rfl, rfl, hq0, hq1, T, hb⟩ := hrel
      by_cases hlt : k < n
      · obtain ⟨x, hxk⟩ := get_of_lt (xs := p) (k := k) (by rw [H.out]; exact hlt)
        obtain ⟨b, o, ra, rc, rfl, hbl, i0, i1⟩ := (HP.out.below hb).row hxk
        obtain ⟨_, _, _, _, hr2, _, _⟩ := i1.open
        have hlt' := nat_of_lt hlt
        have hdrop : p.drop k = x :: p.drop (k + 1) := by
          rw [List.drop_eq_getElem_cons (by rw [H.out]; exact hlt)]
          congr 1
          have := (List.getElem?_eq_some_iff.1 hxk).2
          exact this
        have D := hide hdrop; clear hdrop hxk i1
        generalize hxl : x.length = m at *
        have XL := hide hxl; clear hxl
        have T2 : Hid ((if q - m < 0 then -1 else szP (p.drop (k + 1)) (q - m)) = szP p (l - n)) := by
          have h := T.out
          rw [D.out, szP, XL.out] at h
          exact h
        by_cases hs : q - m < 0
        · have T3 : Hid (szP p (l - n) = -1) := hide (by have h := T2.out; rw [if_pos hs] at h; exact h.symm)
          go_wp2_with (go_at_call 76; refine (szInstrS_any _ _ _ _ _ (by omega) (by omega) (by omega)).mono ?_; rw [if_pos hs]; rintro e w1 ⟨rfl, rfl⟩)
          go_ret
          rw [T3.out]
          exact ⟨rfl, hb⟩
        · have T3 : Hid (szP (p.drop (k + 1)) (q - m) = szP p (l - n)) := hide (by have h := T2.out; rwa [if_neg hs] at h)
          go_wp2_with (go_at_call 76; refine (szInstrS_any _ _ _ _ _ (by omega) (by omega) (by omega)).mono ?_; rw [if_neg hs]; rintro e w1 ⟨rfl, rfl⟩)
          go_roundw
          case rel => exact ⟨k + 1, q - m, by omega, by go_num, rfl, by omega, by omega, T3, hb⟩
          case measure => simp [intOf]; omega
      · have T3 : Hid (szP p (l - n) = q) := hide (by have h := T.out; rw [List.drop_of_length_le (by rw [H.out]; omega), szP] at h; exact h.symm)
        go_wp2_with fail
        go_ret
        rw [T3.out]
        exact ⟨rfl, hb⟩

set_option maxHeartbeats 400000 in
theorem toInstrS_any (v : Value) (xs : List Ins) (w : World) (hx : Rep InsE w v xs) (hl : xs.length ≤ 1048576) :
    Calls Tryz.prog 80 #[v] w (RetOwn InsE 84 w xs) := by
  obtain ⟨a, c, rfl, hc1, hc2, hc3, hx⟩ := hx.open
  have HX := hide hx; clear hx
  generalize hn : xs.length = n at *
  have H := hide hn; clear hn
  go_enter Tryz.func80, Tryz.ntmps80
  go_wp2_with (at_make; refine wpList_make InsE 84 ⟨0, 0, 0, 0⟩ Tryz.infoIns rfl Tryz.underlying82 n (by decide) (by omega) rfl _ _ rfl rfl rfl ?_; intro w1 hown hgr)
  have hb1 := below_of_grown hgr
  go_loopw [4] (fun i wr => ∃ k : Nat, k ≤ n ∧ i = .int .i64 k ∧ OwnI wr w.heap.size (.slice (some ⟨w.heap.size, 0, none⟩) n n) (xs.take k ++ List.replicate (n - k) ⟨0, 0, 0, 0⟩) ∧ Below w.heap.size w wr) (fun i _ => n - (intOf i).toNat)
  case atStart => exact ⟨0, Nat.zero_le _, rfl, by simpa using hown, hb1⟩
  case round =>
    obtain ⟨k, hk, rfl, ho, hb⟩ := hrel
    by_cases hlt : k < n
    · obtain ⟨x, hxk⟩ := get_of_lt (xs := xs) (k := k) (by rw [H.out]; exact hlt)
      obtain ⟨b, o, rfl, hbl, i0, i1, i2, i3⟩ := (HX.out.below hb).ins hxk
      have hlt' := nat_of_lt hlt
      have X := hide hxk; clear hxk
      go_wp2_with fail
      go_wp2_with (go_at_call 170; refine (toInstr_any x _).mono ?_; rintro e w2 ⟨rfl, hb2⟩; obtain ⟨hgl, f0, f1, f2, f3, hfr⟩ := (ho.below hb2).ins (k := k) (by rw [← H.out]; exact get_pad xs _ (by rw [H.out]; exact hlt)))
      have ho2 := (ho.below hb2).setIns (k := k) (by rw [← H.out]; exact get_pad xs _ (by rw [H.out]; exact hlt)) x
      rw [← H.out, set_pad xs _ X.out, H.out] at ho2
      go_roundw
      case rel => exact ⟨k + 1, by omega, by go_num, ho2, ((((hb.trans (hb2.mono hb.size)).setCell (Nat.le_refl _) _).setCell (Nat.le_refl _) _).setCell (Nat.le_refl _) _).setCell (Nat.le_refl _) _⟩
      case measure => simp [intOf]; omega
    · go_wp2_with fail
      go_ret
      rw [← H.out, pad_all xs _ (by rw [H.out]; omega), H.out] at ho
      exact ⟨_, rfl, ho, hb⟩

end Go.Proofs.YtpbmlppdmdmfkaaGreatDoor

namespace Go.Proofs.YtpbmlppdmdmfkaaGreatDoor
open Go.RowKit

set_option maxHeartbeats 400000 in
theorem toInstrSS_any (v : Value) (xs : List (List Ins)) (w : World) (hx : RepP w v xs) (hl : xs.length ≤ 1048576) (hl2 : ∀ r ∈ xs, r.length ≤ 1048576) :
    Calls Tryz.prog 24 #[v] w (RetOwn2 InsE 82 84 w xs) := by
  obtain ⟨a, c, rfl, hc1, hc2, hc3, hx⟩ := hx.open
  have HX := hide hx; clear hx
  have HL2 := hide hl2; clear hl2
  generalize hn : xs.length = n at *
  have H := hide hn; clear hn
  go_enter Tryz.func24, Tryz.ntmps24
  go_wp2_with (at_make; refine wpList_make SlcE 82 ⟨none, 0, 0⟩ Tryz.infoInsS rfl Tryz.underlying23 n (by decide) (by omega) rfl _ _ rfl rfl rfl ?_; intro w1 hown hgr)
  have hb1 := below_of_grown hgr
  go_loopw [4] (fun i wr => ∃ k : Nat, k ≤ n ∧ i = .int .i64 k ∧ OwnP wr w.heap.size (.slice (some ⟨w.heap.size, 0, none⟩) n n) (xs.take k ++ List.replicate (n - k) []) ∧ Below w.heap.size w wr) (fun i _ => n - (intOf i).toNat)
  case atStart => exact ⟨0, Nat.zero_le _, rfl, by simpa using Own2.made hown, hb1⟩
  case round =>
    obtain ⟨k, hk, rfl, ho, hb⟩ := hrel
    by_cases hlt : k < n
    · obtain ⟨x, hxk⟩ := get_of_lt (xs := xs) (k := k) (by rw [H.out]; exact hlt)
      obtain ⟨b, o, ra, rc, rfl, hbl, i0, i1⟩ := (HX.out.below hb).row hxk
      have hlt' := nat_of_lt hlt
      have hxl : x.length ≤ 1048576 := HL2.out x (List.mem_of_getElem? hxk)
      have X := hide hxk; clear hxk
      have I1 := hide i1; clear i1
      go_wp2_with (go_at_call 80; refine (toInstrS_any _ x _ I1.out hxl).mono ?_; rintro e w2 ⟨u, rfl, hu, hb2⟩; obtain ⟨s, rfl, -⟩ := hu.toSlc; obtain ⟨hgl, ⟨_, f0⟩, hfr⟩ := (ho.below hb2).cellAt (k := k) (by rw [← H.out, length_pad _ _ (by rw [H.out]; omega), H.out]; exact hlt))
      have ho2 := ho.put hb2 hb.size (k := k) (by rw [← H.out, length_pad _ _ (by rw [H.out]; omega), H.out]; exact hlt) hu
      rw [← H.out, set_pad xs _ X.out, H.out] at ho2
      go_roundw
      case rel => exact ⟨k + 1, by omega, by go_num, ho2, (hb.trans (hb2.mono hb.size)).setCell (Nat.le_refl _) _⟩
      case measure => simp [intOf]; omega
    · go_wp2_with fail
      go_ret
      rw [← H.out, pad_all xs _ (by rw [H.out]; omega), H.out] at ho
      exact ⟨_, rfl, ho, hb⟩

/-- The instruction whose fields are numbered from m on. -/
def markI (m : Int) : Ins := ⟨m, m + 1, m + 1 + 1, m + 1 + 1 + 1⟩
/-- So many instructions, numbered from m on. -/
def marksI : Nat → Int → List Ins
  | 0, _ => []
  | n + 1, m => markI m :: marksI n (m + 4)

theorem marksI_length (n : Nat) (m : Int) : (marksI n m).length = n := by
  induction n generalizing m with
  | zero => rfl
  | succ n ih => simp [marksI, ih]

theorem marksI_get (n : Nat) (m : Int) {k : Nat} (h : k < n) : (marksI n m)[k]? = some (markI (m + 4 * k)) := by
  induction n generalizing m k with
  | zero => omega
  | succ n ih =>
    cases k with
    | zero => simp [marksI]
    | succ k => simp only [marksI, List.getElem?_cons_succ]; rw [ih _ (by omega)]; congr 2; omega

/-- The first k marked, the rest as they were. -/
theorem marks_step (xs : List Ins) (m : Int) {k : Nat} (hk : k < xs.length) : ((marksI k m) ++ xs.drop k).set k (markI (m + 4 * k)) = marksI (k + 1) m ++ xs.drop (k + 1) := by
  have h1 : marksI (k + 1) m = marksI k m ++ [markI (m + 4 * k)] := by
    apply List.ext_getElem?
    intro i
    by_cases hi : i < k
    · rw [marksI_get _ _ (by omega), List.getElem?_append_left (by rw [marksI_length]; exact hi), marksI_get _ _ hi]
    · by_cases hi2 : i = k
      · subst hi2
        rw [marksI_get _ _ (by omega), List.getElem?_append_right (by rw [marksI_length]; omega), marksI_length]; simp
      · rw [List.getElem?_eq_none (by rw [marksI_length]; omega), List.getElem?_eq_none (by simp [marksI_length]; omega)]
  rw [List.set_append_right _ _ (by rw [marksI_length]; omega), marksI_length, Nat.sub_self, List.drop_eq_getElem_cons hk, List.set_cons_zero, h1]
  simp

set_option maxHeartbeats 800000 in
theorem markInstrS_any (v : Value) (xs : List Ins) (m : Int) (w : World) (base : Nat) (hx : OwnI w base v xs) (hl : xs.length ≤ 1099511627776) (hm0 : 0 ≤ m) (hm1 : m ≤ 1099511627776) :
    Calls Tryz.prog 87 #[v, .int .i64 m] w fun e w' => e = .returned (.int .i64 (m + 4 * xs.length)) ∧ OwnI w' base v (marksI xs.length m) ∧ w.grownBy w' v.ownBlock := by
  rcases hx.shape with ⟨rfl, rfl⟩ | ⟨g, c, rfl, hg1, hg2, hc1, hc2⟩
  · go_enter Tryz.func87, Tryz.ntmps87
    go_wp2_with fail
    go_loopw [1, 5] (fun q i wr => i = .int .i64 0 ∧ q = .int .i64 m ∧ wr = w) (fun _ i _ => (intOf i).toNat)
    case atStart => exact ⟨rfl, rfl, rfl⟩
    case round =>
      obtain ⟨rfl, rfl, rfl⟩ := hrel
      go_wp2_with fail
      go_ret
      exact ⟨by simp, hx, World.grownBy.refl _ _⟩
  · generalize hn : xs.length = n at *
    have H := hide hn; clear hn
    go_enter Tryz.func87, Tryz.ntmps87
    go_wp2_with fail
    go_loopw [1, 5] (fun q i wr => ∃ k : Nat, k ≤ n ∧ i = .int .i64 k ∧ q = .int .i64 (m + 4 * k) ∧ OwnI wr base (.slice (some ⟨g, 0, none⟩) n c) (marksI k m ++ xs.drop k) ∧ w.grownBy wr (some g)) (fun _ i _ => n - (intOf i).toNat)
    case atStart => exact ⟨0, Nat.zero_le _, rfl, by simp, by simpa [marksI] using hx, World.grownBy.refl _ _⟩
    case round =>
      obtain ⟨k, hk, rfl, rfl, ho, hb⟩ := hrel
      by_cases hlt : k < n
      · obtain ⟨x, hxk⟩ := get_of_lt (xs := xs) (k := k) (by rw [H.out]; exact hlt)
        have hlt' := nat_of_lt hlt
        have hget : (marksI k m ++ xs.drop k)[k]? = some x := by rw [List.getElem?_append_right (by rw [marksI_length]; omega), marksI_length, Nat.sub_self, List.getElem?_drop]; simpa using hxk
        obtain ⟨hgl, f0, f1, f2, f3, hfr⟩ := ho.ins hget
        have ho2 := ho.setIns hget (markI (m + 4 * k))
        rw [marks_step xs m (by rw [H.out]; exact hlt)] at ho2
        have X := hide hxk; clear hxk
        have G := hide hget; clear hget
        go_wp2_with fail
        go_roundw
        case rel => exact ⟨k + 1, by omega, by go_num, by go_num, ho2, grown_set (grown_set (grown_set (grown_set hb _ _) _ _) _ _) _ _⟩
        case measure => simp [intOf]; omega
      · have e : k = n := by omega
        subst e
        go_wp2_with fail
        go_ret
        rw [List.drop_of_length_le (by rw [H.out]; omega), List.append_nil] at ho
        exact ⟨rfl, ho, hb⟩

/-- Programs whose instructions are numbered from m on. -/
def marksP : List Nat → Int → List (List Ins)
  | [], _ => []
  | n :: ns, m => marksI n m :: marksP ns (m + 4 * n)

def sumN : List Nat → Nat
  | [] => 0
  | n :: ns => n + sumN ns

theorem sumN_take_succ (ns : List Nat) {k n : Nat} (h : ns[k]? = some n) : sumN (ns.take (k + 1)) = sumN (ns.take k) + n := by
  induction ns generalizing k with
  | nil => simp at h
  | cons x ns ih =>
    cases k with
    | zero => simp at h; simp [sumN, h]
    | succ k => simp only [List.take_succ_cons, sumN]; rw [ih (by simpa using h)]; omega

theorem sumN_take_le (ns : List Nat) (k : Nat) : sumN (ns.take k) ≤ sumN ns := by
  induction ns generalizing k with
  | nil => simp [sumN]
  | cons x ns ih => cases k with
    | zero => simp [sumN]
    | succ k => simp only [List.take_succ_cons, sumN]; have := ih k; omega

theorem le_sumN {ns : List Nat} {k n : Nat} (h : ns[k]? = some n) : sumN (ns.take k) + n ≤ sumN ns := by
  rw [← sumN_take_succ ns h]; exact sumN_take_le ns _

theorem marksP_length (ns : List Nat) (m : Int) : (marksP ns m).length = ns.length := by
  induction ns generalizing m with
  | nil => rfl
  | cons n ns ih => simp [marksP, ih]

theorem marksP_get (ns : List Nat) (m : Int) {k n : Nat} (h : ns[k]? = some n) : (marksP ns m)[k]? = some (marksI n (m + 4 * sumN (ns.take k))) := by
  induction ns generalizing m k with
  | nil => simp at h
  | cons x ns ih =>
    cases k with
    | zero => simp at h; simp [marksP, sumN, h]
    | succ k => simp only [marksP, List.getElem?_cons_succ]; rw [ih _ (by simpa using h)]; simp only [List.take_succ_cons, sumN]; congr 2; omega

/-- The first k rows marked. -/
theorem marksP_step (p : List (List Ins)) (m : Int) {k : Nat} {r : List Ins} (hr : p[k]? = some r) :
    (marksP ((p.map List.length).take k) m ++ p.drop k).set k (marksI r.length (m + 4 * sumN ((p.map List.length).take k))) = marksP ((p.map List.length).take (k + 1)) m ++ p.drop (k + 1) := by
  have hk := (List.getElem?_eq_some_iff.1 hr).1
  have hl : (marksP ((p.map List.length).take k) m).length = k := by rw [marksP_length]; simp; omega
  rw [List.set_append_right _ _ (by omega), hl, Nat.sub_self, List.drop_eq_getElem_cons hk, List.set_cons_zero]
  have hn : (p.map List.length)[k]? = some r.length := by simp [hr]
  have e : marksP ((p.map List.length).take (k + 1)) m = marksP ((p.map List.length).take k) m ++ [marksI r.length (m + 4 * sumN ((p.map List.length).take k))] := by
    apply List.ext_getElem?
    intro i
    by_cases hi : i < k
    · obtain ⟨q, hq⟩ := get_of_lt (xs := p.map List.length) (k := i) (by simp; omega)
      rw [List.getElem?_append_left (by omega), marksP_get _ m (k := i) (n := q) (by rw [List.getElem?_take, if_pos (by omega)]; exact hq), marksP_get _ m (k := i) (n := q) (by rw [List.getElem?_take, if_pos (by omega)]; exact hq), List.take_take, List.take_take, Nat.min_eq_left (by omega), Nat.min_eq_left (by omega)]
    · by_cases hi2 : i = k
      · subst hi2
        rw [List.getElem?_append_right (by omega), hl, marksP_get _ m (k := i) (n := r.length) (by rw [List.getElem?_take, if_pos (by omega)]; exact hn), List.take_take, Nat.min_eq_left (by omega)]; simp
      · rw [List.getElem?_eq_none (by rw [marksP_length]; simp; omega), List.getElem?_eq_none (by simp [hl]; omega)]
  rw [e]; simp

set_option maxHeartbeats 800000 in
theorem markInstrSS_any (v : Value) (p : List (List Ins)) (m : Int) (w0 w : World) (base : Nat) (hx : OwnP w0 base v p) (hw : Below w0.heap.size w0 w) (hl : sumN (p.map List.length) ≤ 268435456) (hpl : p.length ≤ 1048576) (hm0 : 0 ≤ m) (hm1 : m ≤ 1048576) :
    Calls Tryz.prog 30 #[v, .int .i64 m] w fun e w' => e = .returned (.int .i64 (m + 4 * sumN (p.map List.length))) ∧ OwnP w' base v (marksP (p.map List.length) m) ∧ Outside base w0.heap.size w w' := by
  obtain ⟨us, hU, hlt⟩ := hx.told
  have HLT := hide hlt; clear hlt
  have hU := hU.below hw
  generalize hsz : w0.heap.size = hi at *
  clear hx hsz hw
  rcases hU.2.1.shape with ⟨rfl, h0⟩ | ⟨g, c, rfl, hg1, hg2, hc1, hc2⟩
  · subst h0
    obtain rfl : p = [] := List.eq_nil_of_length_eq_zero hU.1.symm
    go_enter Tryz.func30, Tryz.ntmps30
    go_wp2_with fail
    go_loopw [1, 5] (fun q i wr => i = .int .i64 0 ∧ q = .int .i64 m ∧ wr = w) (fun _ i _ => (intOf i).toNat)
    case atStart => exact ⟨rfl, rfl, rfl⟩
    case round =>
      obtain ⟨rfl, rfl, rfl⟩ := hrel
      go_wp2_with fail
      go_ret
      exact ⟨by simp [sumN], hU.own, Outside.refl _ _ _⟩
  · have hul := hU.1
    generalize hn : us.length = n at *
    have H := hide hul; clear hul
    have hnb : n ≤ 1048576 := by have := H.out; omega
    clear hn
    go_enter Tryz.func30, Tryz.ntmps30
    go_wp2_with fail
    go_loopw [1, 5] (fun q i wr => ∃ k : Nat, k ≤ n ∧ i = .int .i64 k ∧ q = .int .i64 (m + 4 * sumN ((p.map List.length).take k)) ∧ Own2U InsE 82 84 us wr base (.slice (some ⟨g, 0, none⟩) n c) (marksP ((p.map List.length).take k) m ++ p.drop k) ∧ Outside base hi w wr) (fun _ i _ => n - (intOf i).toNat)
    case atStart => exact ⟨0, Nat.zero_le _, rfl, by simp [sumN], by simpa [marksP] using hU, Outside.refl _ _ _⟩
    case round =>
      obtain ⟨k, hk, rfl, rfl, ho, hb⟩ := hrel
      by_cases hlt : k < n
      · obtain ⟨x, hxk⟩ := get_of_lt (xs := p) (k := k) (by rw [← H.out]; exact hlt)
        have hlt' := nat_of_lt hlt
        have hget : (marksP ((p.map List.length).take k) m ++ p.drop k)[k]? = some x := by
          have hl : (marksP ((p.map List.length).take k) m).length = k := by rw [marksP_length]; simp; have := H.out; omega
          rw [List.getElem?_append_right (by omega), hl, Nat.sub_self, List.getElem?_drop]; simpa using hxk
        obtain ⟨s, hs, hgl, f0, hrow, hback⟩ := ho.row hget
        have hsum := le_sumN (ns := p.map List.length) (k := k) (n := x.length) (by simp [hxk])
        have hst := marksP_step p m hxk
        have hsum2 := sumN_take_succ (p.map List.length) (k := k) (n := x.length) (by simp [hxk])
        generalize hS : sumN ((p.map List.length).take k) = S at *
        have ST := hide hst; have S2 := hide hsum2; have SS := hide hS; have G := hide hget; have SK := hide hs; have X := hide hxk; have BK := hide hback; have RW := hide hrow
        clear hst hsum2 hS hget hs hxk hback hrow
        go_wp2_with (go_at_call 87; refine (markInstrS_any s.v x _ _ base RW.out (by omega) (by omega) (by omega)).mono ?_; rintro e w2 ⟨rfl, hu, hgr⟩)
        have ho2 := BK.out _ _ hu hgr
        rw [ST.out] at ho2
        go_roundw
        case rel => exact ⟨k + 1, by omega, by go_num, by rw [S2.out]; go_num, ho2, hb.grown hgr (fun q hq => HLT.out k s SK.out q hq)⟩
        case measure => simp [intOf]; omega
      · have e : k = n := by omega
        subst e
        go_wp2_with fail
        go_ret
        rw [List.drop_of_length_le (by rw [← H.out]; omega), List.append_nil, List.take_of_length_le (by simp [← H.out])] at ho
        rw [List.take_of_length_le (by simp [← H.out])]
        exact ⟨rfl, ho.own, hb⟩

end Go.Proofs.YtpbmlppdmdmfkaaGreatDoor
