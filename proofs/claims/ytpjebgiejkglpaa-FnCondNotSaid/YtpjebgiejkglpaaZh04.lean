/-
  Equality of conditions, of the reference and of the program. No condition.
-/
import Derived.Test.YtpjebgiejkglpaaZh00
namespace Go.Proofs.Ytpjebgiejkglpaa
open Go.RowKit

/-- Bytes. -/
def ByteE : El Int := ⟨1, by decide, fun x => [.int .u8 x], fun _ => rfl, fun x u h => by simp at h; subst h; rfl⟩

theorem Rep.byte {w : World} {a : Option Addr} {n c : Nat} {xs : List Int} (h : Rep ByteE w (.slice a n c) xs) {k : Nat} {x : Int} (hx : xs[k]? = some x) :
    ∃ b o, a = some ⟨b, o, none⟩ ∧ b < w.heap.size ∧ w.cell? ⟨b, o + k, none⟩ = some (.int .u8 x) := by
  obtain ⟨a', c', hv, _, _, h⟩ := h
  simp only [Value.slice.injEq] at hv
  obtain ⟨rfl, rfl, rfl⟩ := hv
  obtain ⟨b, o, rfl, h'⟩ := h k x hx
  have := h' 0 _ rfl
  simp only [ByteE, Nat.mul_one, Nat.add_zero] at this
  exact ⟨b, o, rfl, lt_of_cell this, this⟩

/-- The source lies in block b: its bytes xs, and how many were taken. -/
structure Rd (w : World) (b : Nat) (a : Option Addr) (c : Nat) (xs : List Int) (p : Int) : Prop where
  lt : b < w.heap.size
  c0 : w.cell? ⟨b, 0, none⟩ = some (.slice a xs.length c)
  c1 : w.cell? ⟨b, 1, none⟩ = some (.int .i64 p)
  f1 : w.frozen? ⟨b, 1, none⟩ = false
  rep : Rep ByteE w (.slice a xs.length c) xs
  far : ∀ g o, xs ≠ [] → a = some ⟨g, o, none⟩ → g < b
  by' : ∀ x ∈ xs, 0 ≤ x ∧ x ≤ 255
  p0 : 0 ≤ p

/-- Something else was made or written: the source is as it was. -/
theorem Rd.keep {w w' : World} {b : Nat} {a : Option Addr} {c : Nat} {xs : List Int} {p : Int} (h : Rd w b a c xs p) {B : Nat} (hb : Below B w w') (hB : b < B) : Rd w' b a c xs p := by
  have e : ∀ g o, g < B → w'.cell? ⟨g, o, none⟩ = w.cell? ⟨g, o, none⟩ := fun g o hg => hb.cell (p := ⟨g, o, none⟩) hg
  refine ⟨Nat.lt_of_lt_of_le h.lt hb.size, (e b 0 hB).trans h.c0, (e b 1 hB).trans h.c1, (hb.frozen (p := ⟨b, 1, none⟩) hB).trans h.f1, ?_, h.far, h.by', h.p0⟩
  obtain ⟨a', c', hv, h1, h2, h3⟩ := h.rep
  refine ⟨a', c', hv, h1, h2, fun i x hx => ?_⟩
  obtain ⟨g, o, rfl, hi⟩ := h3 i x hx
  refine ⟨g, o, rfl, fun j u hu => ?_⟩
  rw [← hi j u hu]
  refine e g _ ?_
  simp only [Value.slice.injEq] at hv
  have := h.far g o (by intro e; subst e; simp at hx) hv.1
  omega

theorem cell_far {w : World} {b j g o : Nat} {v : Value} (hg : g ≠ b) : (w.setCell ⟨b, j, none⟩ v).cell? ⟨g, o, none⟩ = w.cell? ⟨g, o, none⟩ := by
  unfold World.cell?
  rw [heap_setCell_other w ⟨b, j, none⟩ g v (fun e => hg (by simpa using e))]

/-- The count is stored. -/
theorem Rd.step {w : World} {b : Nat} {a : Option Addr} {c : Nat} {xs : List Int} {p : Int} (h : Rd w b a c xs p) (q : Int) (hq : 0 ≤ q) : Rd (w.setCell ⟨b, 1, none⟩ (.int .i64 q)) b a c xs q := by
  have h0 := h.c0; have h1 := h.c1; have h2 := h.f1
  refine ⟨by simpa using h.lt, by simp [go_sem, h0], by simp [go_sem, h1], by simp [go_sem, h2], ?_, h.far, h.by', hq⟩
  obtain ⟨a', c', hv, h3, h4, h5⟩ := h.rep
  refine ⟨a', c', hv, h3, h4, fun i x hx => ?_⟩
  obtain ⟨g, o, rfl, hi⟩ := h5 i x hx
  refine ⟨g, o, rfl, fun j u hu => ?_⟩
  simp only [Value.slice.injEq] at hv
  have := h.far g o (by intro e; subst e; simp at hx) hv.1
  rw [cell_far (by omega)]
  exact hi j u hu

/-- What a function that takes from the source hands back. -/
def RetRd (w : World) (b : Nat) (a : Option Addr) (c : Nat) (xs : List Int) (p K : Int) (Q : Value → World → Prop) (e : Ending) (w' : World) : Prop :=
  ∃ (v : Value) (p' : Int), e = .returned v ∧ Q v w' ∧ p' ≤ p + K ∧ Rd w' b a c xs p' ∧ Outside b (b + 1) w w'

end Go.Proofs.Ytpjebgiejkglpaa

namespace Go.Proofs.Ytpjebgiejkglpaa
open Go.RowKit

theorem szP_eq (p : List (List Ins)) (l : Int) (h : 0 ≤ szP p l) : szP p l = l - p.flatten.length ∨ p = [] := by
  induction p generalizing l with
  | nil => exact .inr rfl
  | cons r p ih =>
    left
    simp only [szP] at h ⊢
    split at h
    · omega
    · rename_i hl
      rw [if_neg hl]
      rcases ih _ h with h1 | h1
      · rw [h1]; simp; omega
      · subst h1; simp [szP]

theorem szPP_le (p : List (List Ins)) (h : ¬ szPP p 1048576 < 0) : p.length ≤ 1048576 ∧ p.flatten.length ≤ 1048576 ∧ ∀ r ∈ p, r.length ≤ 1048576 := by
  unfold szPP at h
  split at h
  · omega
  · rename_i hl
    have h1 := szP_le p _ (Int.not_lt.1 h)
    refine ⟨by omega, ?_, fun r hr => by have := h1.2 r hr; omega⟩
    rcases szP_eq p _ (Int.not_lt.1 h) with h2 | h2
    · rw [h2] at h; omega
    · subst h2; simp

theorem sumN_flatten (p : List (List Ins)) : sumN (p.map List.length) = p.flatten.length := by
  induction p with
  | nil => rfl
  | cons r p ih => simp [sumN, ih]

theorem Below.next {a b c : World} (h : Below a.heap.size a b) (k : Below b.heap.size b c) : Below a.heap.size a c := h.trans (k.mono h.size)

theorem Own.lo {α : Type} {E : El α} {T : TypeId} {w : World} {base : Nat} {v : Value} {xs : List α} (h : Own E T w base v xs) : ∀ q, v.ownBlock = some q → base ≤ q ∧ q < w.heap.size := World.ownsRow.lt h

/-- A row that a call made is written: what lay below is as it was. -/
theorem below_row {w w' : World} {row : Option Nat} (hg : w.grownBy w' row) {B : Nat} (hB : B ≤ w.heap.size) (hr : ∀ k, row = some k → B ≤ k) : Below B w w' := (Below.refl B w).grown hg hB hr

end Go.Proofs.Ytpjebgiejkglpaa

namespace Go.Proofs.Ytpjebgiejkglpaa
open Go.RowKit

/-- A condition. -/
inductive Cd where
  | mk (op th pl val : Int) (kids : List Cd)

def Cd.op : Cd → Int
  | .mk o _ _ _ _ => o
def Cd.th : Cd → Int
  | .mk _ t _ _ _ => t
def Cd.pl : Cd → Int
  | .mk _ _ p _ _ => p
def Cd.val : Cd → Int
  | .mk _ _ _ x _ => x
def Cd.kids : Cd → List Cd
  | .mk _ _ _ _ k => k

theorem Cd.eta (c : Cd) : Cd.mk c.op c.th c.pl c.val c.kids = c := by cases c; rfl

/-- What holds of all lists of conditions. -/
theorem Cd.all {P : List Cd → Prop} (h : ∀ ks, (∀ c ∈ ks, P c.kids) → P ks) (ks : List Cd) : P ks := by
  apply h
  induction ks with
  | nil => intro c hc; simp at hc
  | cons c ks ih =>
    intro d hd
    have hc : P c.kids := by
      refine Cd.rec (motive_1 := fun c => P c.kids) (motive_2 := fun l => ∀ c ∈ l, P c.kids) ?_ ?_ ?_ c
      · intro o t p x l hl; exact h l hl
      · intro c hc; simp at hc
      · intro a l ha hl c hc
        rcases List.mem_cons.1 hc with rfl | hc
        · exact ha
        · exact hl c hc
    rcases List.mem_cons.1 hd with rfl | hd
    · exact hc
    · exact ih d hd

/-- A condition as it lies: its numbers and the slice of its parts. -/
structure Cs where
  op : Int
  th : Int
  pl : Int
  val : Int
  s : Slc

abbrev Cs.v (u : Cs) : Value := .agg #[.int .i64 u.op, .int .i64 u.th, .int .i64 u.pl, .int .i64 u.val, .slice u.s.a u.s.n u.s.cap]
def CsE : El Cs := ⟨5, by decide, fun x => [.int .i64 x.op, .int .i64 x.th, .int .i64 x.pl, .int .i64 x.val, .slice x.s.a x.s.n x.s.cap], fun _ => rfl, fun x u h => by simp at h; rcases h with rfl | rfl | rfl | rfl | rfl <;> rfl⟩

theorem cell_of_block {w w' : World} {b : Nat} (h : w'.heap[b]? = w.heap[b]?) (o : Nat) : w'.cell? ⟨b, o, none⟩ = w.cell? ⟨b, o, none⟩ := by
  unfold World.cell?
  rw [h]

/-- What is read of a slice hangs on the blocks from lo on. -/
def From (lo : Nat) {α : Type} (s : Slc) (us : List α) : Prop := us = [] ∨ ∀ b o, s.a = some ⟨b, o, none⟩ → lo ≤ b

/-- u reads as the condition c, in blocks from lo on. -/
inductive RepC (lo : Nat) (w : World) : Cs → Cd → Prop
  | mk {o t p x : Int} {s : Slc} {us : List Cs} {ks : List Cd} (h1 : us.length = ks.length) (h2 : Rep CsE w s.v us) (h3 : From lo s us)
      (h4 : ∀ (i : Nat) (u : Cs) (k : Cd), us[i]? = some u → ks[i]? = some k → RepC lo w u k) : RepC lo w ⟨o, t, p, x, s⟩ (.mk o t p x ks)

/-- s reads as the conditions ks, in blocks from lo on. -/
def RepK (lo : Nat) (w : World) (s : Slc) (ks : List Cd) : Prop :=
  ∃ us : List Cs, us.length = ks.length ∧ Rep CsE w s.v us ∧ From lo s us ∧ ∀ (i : Nat) (u : Cs) (k : Cd), us[i]? = some u → ks[i]? = some k → RepC lo w u k

theorem RepC.kids {lo : Nat} {w : World} {u : Cs} {c : Cd} (h : RepC lo w u c) : u.op = c.op ∧ u.th = c.th ∧ u.pl = c.pl ∧ u.val = c.val ∧ RepK lo w u.s c.kids := by
  cases h with
  | mk h1 h2 h3 h4 => exact ⟨rfl, rfl, rfl, rfl, _, h1, h2, h3, h4⟩

theorem RepK.cond {lo : Nat} {w : World} {s : Slc} {ks : List Cd} (h : RepK lo w s ks) (o t p x : Int) : RepC lo w ⟨o, t, p, x, s⟩ (.mk o t p x ks) := by
  obtain ⟨us, h1, h2, h3, h4⟩ := h
  exact .mk h1 h2 h3 h4

theorem Rep.from {lo : Nat} {w w' : World} {s : Slc} {us : List Cs} (h : Rep CsE w s.v us) (hf : From lo s us) (hk : ∀ q, lo ≤ q → q < w.heap.size → w'.heap[q]? = w.heap[q]?) : Rep CsE w' s.v us := by
  obtain ⟨a, c, hv, h1, h2, h⟩ := h
  refine ⟨a, c, hv, h1, h2, fun i x hx => ?_⟩
  obtain ⟨b, o, rfl, hi⟩ := h i x hx
  refine ⟨b, o, rfl, fun j u hu => ?_⟩
  have hc := hi j u hu
  rw [← hc]
  refine cell_of_block (hk b ?_ (lt_of_cell hc)) _
  rcases hf with rfl | hf
  · simp at hx
  · simp only [Slc.v, Value.slice.injEq] at hv
    exact hf b o hv.1

theorem RepC.keep {lo : Nat} {w w' : World} {u : Cs} {c : Cd} (h : RepC lo w u c) (hk : ∀ q, lo ≤ q → q < w.heap.size → w'.heap[q]? = w.heap[q]?) : RepC lo w' u c := by
  induction h with
  | mk h1 h2 h3 h4 ih => exact .mk h1 (h2.from h3 hk) h3 ih

theorem RepC.low {lo lo' : Nat} {w : World} {u : Cs} {c : Cd} (h : RepC lo w u c) (hl : lo' ≤ lo) : RepC lo' w u c := by
  induction h with
  | mk h1 h2 h3 h4 ih =>
    refine .mk h1 h2 ?_ ih
    rcases h3 with h3 | h3
    · exact .inl h3
    · exact .inr fun b o e => Nat.le_trans hl (h3 b o e)

theorem RepK.keep {lo : Nat} {w w' : World} {s : Slc} {ks : List Cd} (h : RepK lo w s ks) (hk : ∀ q, lo ≤ q → q < w.heap.size → w'.heap[q]? = w.heap[q]?) : RepK lo w' s ks := by
  obtain ⟨us, h1, h2, h3, h4⟩ := h
  exact ⟨us, h1, h2.from h3 hk, h3, fun i u k hu hk' => (h4 i u k hu hk').keep hk⟩

theorem RepK.low {lo lo' : Nat} {w : World} {s : Slc} {ks : List Cd} (h : RepK lo w s ks) (hl : lo' ≤ lo) : RepK lo' w s ks := by
  obtain ⟨us, h1, h2, h3, h4⟩ := h
  refine ⟨us, h1, h2, ?_, fun i u k hu hk' => (h4 i u k hu hk').low hl⟩
  rcases h3 with h3 | h3
  · exact .inl h3
  · exact .inr fun b o e => Nat.le_trans hl (h3 b o e)

theorem RepK.below {lo : Nat} {w w' : World} {s : Slc} {ks : List Cd} (h : RepK lo w s ks) (hb : Below w.heap.size w w') : RepK lo w' s ks := h.keep fun q _ hq => hb.block q hq
theorem RepC.belowW {lo : Nat} {w w' : World} {u : Cs} {c : Cd} (h : RepC lo w u c) (hb : Below w.heap.size w w') : RepC lo w' u c := h.keep fun q _ hq => hb.block q hq

theorem RepK.nil (lo : Nat) (w : World) : RepK lo w ⟨none, 0, 0⟩ [] := ⟨[], rfl, Rep.nil w, .inl rfl, fun i u k h => by simp at h⟩

theorem RepK.open {lo : Nat} {w : World} {s : Slc} {ks : List Cd} (h : RepK lo w s ks) : s.n = ks.length ∧ ks.length ≤ s.cap ∧ ks.length ≤ 9223372036854775807 ∧ s.cap ≤ maxLen := by
  obtain ⟨us, h1, h2, h3, h4⟩ := h
  obtain ⟨a, c, hv, h5, h6, h7, _⟩ := h2.open
  simp only [Slc.v, Value.slice.injEq] at hv
  obtain ⟨_, e2, e3⟩ := hv
  rw [e2, e3]; omega

/-- What the walk asks of part k. -/
theorem RepK.kid {lo : Nat} {w : World} {a : Option Addr} {n c : Nat} {ks : List Cd} (h : RepK lo w ⟨a, n, c⟩ ks) {k : Nat} {x : Cd} (hx : ks[k]? = some x) :
    ∃ (b o : Nat) (s : Slc), a = some ⟨b, o, none⟩ ∧ b < w.heap.size ∧ w.cell? ⟨b, o + k * 5, none⟩ = some (.int .i64 x.op) ∧ w.cell? ⟨b, o + k * 5 + 1, none⟩ = some (.int .i64 x.th) ∧
      w.cell? ⟨b, o + k * 5 + 2, none⟩ = some (.int .i64 x.pl) ∧ w.cell? ⟨b, o + k * 5 + 3, none⟩ = some (.int .i64 x.val) ∧ w.cell? ⟨b, o + k * 5 + 4, none⟩ = some (.slice s.a s.n s.cap) ∧ RepK lo w s x.kids := by
  obtain ⟨us, h1, h2, h3, h4⟩ := h
  obtain ⟨u, hu⟩ := get_of_lt (xs := us) (k := k) (by rw [h1]; exact (List.getElem?_eq_some_iff.1 hx).1)
  obtain ⟨e1, e2, e3, e4, hk⟩ := (h4 k u x hu hx).kids
  obtain ⟨a', c', hv, _, _, h⟩ := h2
  simp only [Slc.v, Value.slice.injEq] at hv
  obtain ⟨rfl, _, _⟩ := hv
  obtain ⟨b, o, rfl, h'⟩ := h k u hu
  rw [← e1, ← e2, ← e3, ← e4]
  exact ⟨b, o, u.s, rfl, lt_of_cell (h' 0 _ rfl), h' 0 _ rfl, h' 1 _ rfl, h' 2 _ rfl, h' 3 _ rfl, h' 4 _ rfl, hk⟩

/-- The number of all parts, without the root. -/
def Cd.desc : Cd → Nat
  | .mk _ _ _ _ ks => ks.length + (ks.attach.map fun ⟨k, _⟩ => k.desc).sum
termination_by c => SizeOf.sizeOf c
decreasing_by
  have := List.sizeOf_lt_of_mem ‹_›
  simp; omega

def descs (ks : List Cd) : Nat := (ks.map fun k => k.desc + 1).sum

theorem sum_attach (ks : List Cd) : ks.length + (ks.attach.map fun k => k.1.desc).sum = descs ks := by
  have : (ks.attach.map fun k => k.1.desc) = ks.map fun k => k.desc := by
    rw [List.attach_map_val (l := ks) (f := fun k => k.desc)]
  rw [this]
  unfold descs
  clear this
  induction ks with
  | nil => rfl
  | cons k ks ih => simp; omega

theorem Cd.desc_eq (c : Cd) : c.desc = descs c.kids := by
  cases c with
  | mk o t p x ks =>
    rw [Cd.desc, Cd.kids]
    exact sum_attach ks

theorem descs_take_succ {ks : List Cd} {k : Nat} {x : Cd} (h : ks[k]? = some x) : descs (ks.take (k + 1)) = descs (ks.take k) + (descs x.kids + 1) := by
  unfold descs
  rw [List.take_add_one, h, List.map_append, List.sum_append, ← descs]
  simp only [Option.toList_some, List.map_cons, List.map_nil, List.sum_cons, List.sum_nil]
  rw [Cd.desc_eq]
  rfl

theorem descs_take_le (ks : List Cd) (k : Nat) : descs (ks.take k) ≤ descs ks := by
  have : descs ks = descs (ks.take k) + descs (ks.drop k) := by
    unfold descs
    rw [← List.sum_append, ← List.map_append, List.take_append_drop]
  omega

theorem descs_kid {ks : List Cd} {k : Nat} {x : Cd} (h : ks[k]? = some x) : descs (ks.take k) + (descs x.kids + 1) ≤ descs ks := by
  rw [← descs_take_succ h]; exact descs_take_le _ _

theorem length_le_descs (ks : List Cd) : ks.length ≤ descs ks := by
  unfold descs
  induction ks with
  | nil => simp
  | cons k ks ih => simp; omega

theorem descs_mem {ks : List Cd} {x : Cd} (h : x ∈ ks) : descs x.kids + 1 ≤ descs ks := by
  obtain ⟨k, hk⟩ := List.getElem?_of_mem h
  have := descs_kid hk; omega

/-- What a test hands back. -/
def RetIff (w : World) (p : Prop) (e : Ending) (w' : World) : Prop := ∃ b : Bool, e = .returned (.bool b) ∧ (b = true ↔ p) ∧ Below w.heap.size w w'

end Go.Proofs.Ytpjebgiejkglpaa

namespace Go.Proofs.Ytpjebgiejkglpaa
open Go.RowKit

theorem run_append_none {P : Program} {w : World} {base : Nat} {t ty e : TypeId} {i : TypeInfo} {size : Nat} (ht : P.underlying t = some (.slice e)) (hi : P.info? e = some i)
    {v : Value} {n c : Nat} {xs : List Value} (hown : w.ownsRow base e size v n xs) : (Builtin.append_ #[t, t] ty #[v, .slice none 0 c]).run P w = .ok v w := by
  rcases hown.2 with ⟨rfl, rfl⟩ | ⟨g, cap, cur, rfl, _, _, hnc, _⟩
  · simp [Builtin.append_, run_underlying ht, sizeOf, typeInfo, hi, Builtin.lenOf, Builtin.firstCells]
  · simp [Builtin.append_, run_underlying ht, sizeOf, typeInfo, hi, Builtin.lenOf, Builtin.firstCells, hnc, storeCells]

/-- 'append(s, ys...)' on a slice that the call made. -/
theorem wpList_appS {α : Type} (E : El α) {P : Program} {w : World} {ops : Array Oper} {rest : List Oper} {o : Oper} {a : Act} {Q : Exit → Act → World → Prop}
    (T : TypeId) {zv : Value} {bytes : Nat} (hinfo : (P.info? T).map (fun i => (i.zero, i.size, i.bytes)) = some (some zv, E.sz, bytes)) (hz : zv.cells.size = E.sz) {t : TypeId} (h1 : P.underlying t = some (.slice T))
    (base : Nat) (v : Value) (xs ys : List α) (u : Value) (hown : Own E T w base v xs) (hrep : Rep E w u ys) (hby : bytes ≤ 256) (hn : xs.length + ys.length ≤ 68719476736) (hbase : base ≤ w.heap.size)
    (hg : o.guard = none) (s y : Operand) (hop : o.op = .call { callee := .builtin .append, args := #[s, y], argTypes := #[t, t] })
    (hs : a.eval s = v) (hy : a.eval y = u)
    (hK : ∀ v' w', Own E T w' base v' (xs ++ ys) → w.grownBy w' v.ownBlock → wpList P ops Q rest (a.put o.dst v') w') :
    wpList P ops Q (o :: rest) a w := by
  obtain ⟨it, hi, hz0, hz1, hz2⟩ := info_parts hinfo
  obtain ⟨ad, c, rfl, hc1, hc2, hcell⟩ := hrep
  cases ad with
  | none =>
    have hys : ys = [] := by
      cases ys with
      | nil => rfl
      | cons y ys => obtain ⟨b, o, hb, _⟩ := hcell 0 y rfl; cases hb
    subst hys
    refine wpList_plain hg fun K hK' => ?_
    have hrun := run_append_none (P := P) (w := w) (ty := o.type) (c := c) h1 hi hown
    unfold Oper.wp
    simp [execOp, hop, resolve, invoke, builtin, hs, hy, hrun, Result.andThen]
    exact hK' _ _ (hK _ _ (by simpa using hown) (World.grownBy.refl _ _))
  | some ad =>
    refine wpList_append_own w hg s y t hop base T it zv E.sz bytes h1 hi hz0 hz1 hz2 hz E.pos v xs.length _ hs hown ad ys.length c (ys.flatMap E.c) hy (E.length ys) ?_ ?_ (by unfold maxLen; omega) ?_ hbase ?_
    · intro j u hu
      have hpos := E.pos
      have hj : j = j / E.sz * E.sz + j % E.sz := by rw [Nat.mul_comm]; exact (Nat.div_add_mod j E.sz).symm
      have hm : j % E.sz < E.sz := Nat.mod_lt _ hpos
      have hu2 := hu
      rw [hj, E.get ys _ _ hm] at hu2
      cases hx : ys[j / E.sz]? with
      | none => rw [hx] at hu2; cases hu2
      | some x =>
        rw [hx] at hu2
        obtain ⟨b, o, hb, h⟩ := hcell _ x hx
        simp only [Option.some.injEq] at hb
        subst hb
        have hc := h (j % E.sz) u hu2
        rw [Addr.add_lit, hj, ← Nat.add_assoc]
        exact hc
    · intro u hu
      rw [List.mem_flatMap] at hu
      obtain ⟨x, _, hx⟩ := hu
      exact E.one x u hx
    · have := Nat.mul_le_mul (show xs.length + ys.length ≤ 68719476736 from hn) hby
      omega
    · intro v' w' h2 h3 _
      refine hK v' w' ?_ h3
      unfold Own
      simpa [List.flatMap_append] using h2

/-- Blocks of two element types are two blocks. -/
theorem own_ne {α β : Type} {E : El α} {F : El β} {T U : TypeId} (hT : T ≠ U) {w : World} {base base' : Nat} {v u : Value} {xs : List α} {ys : List β} (h : Own E T w base v xs) (k : Own F U w base' u ys) : ∀ q, u.ownBlock = some q → v.ownBlock ≠ some q := by
  intro q hq hv
  rcases h.2 with ⟨rfl, _⟩ | ⟨g, cap, cur, rfl, _, hg, _⟩
  · simp [Value.ownBlock] at hv
  · rcases k.2 with ⟨rfl, _⟩ | ⟨g', cap', cur', rfl, _, hg', _⟩
    · simp [Value.ownBlock] at hq
    · simp [Value.ownBlock] at hq hv
      subst hq
      subst hv
      rw [hg] at hg'
      simp at hg'
      exact hT hg'.2

/-- A row of the call's own is appended. -/
theorem Own2U.app {α : Type} {E : El α} {T1 T2 : TypeId} (hT : T1 ≠ T2) {us : List Slc} {w w1 w2 : World} {base : Nat} {v v' : Value} {p : List (List α)} (h : Own2U E T1 T2 us w base v p) (hb : Below w.heap.size w w1) (hbase : base ≤ w.heap.size) {r : List α} {s : Slc}
    (hu : Own E T2 w1 w.heap.size s.v r) (h2'' : Own SlcE T1 w2 base v' (us ++ [s])) (hg : w1.grownBy w2 v.ownBlock) : Own2 E T1 T2 w2 base v' (p ++ [r]) := by
  obtain ⟨h1, h2, h3, h4, h5⟩ := h
  have h2' := h2.below hb
  have hnew : ∀ q, s.v.ownBlock = some q → w.heap.size ≤ q := fun q hq => (World.ownsRow.lt hu q hq).1
  have hold : ∀ (i : Nat) (u' : Slc), us[i]? = some u' → ∀ q, u'.v.ownBlock = some q → q < w.heap.size := fun i u' hi q hq => by
    obtain ⟨r', hr'⟩ := get_of_lt (xs := p) (k := i) (by have := (List.getElem?_eq_some_iff.1 hi).1; omega)
    exact (World.ownsRow.lt (h3 i u' r' hi hr') q hq).2
  have split : ∀ (i : Nat) (u' : Slc), (us ++ [s])[i]? = some u' → (i = us.length ∧ u' = s) ∨ (i < us.length ∧ us[i]? = some u') := fun i u' hi => by
    by_cases hlt : i < us.length
    · rw [List.getElem?_append_left hlt] at hi; exact .inr ⟨hlt, hi⟩
    · rw [List.getElem?_append_right (by omega)] at hi
      have : i - us.length = 0 := by
        rcases Nat.eq_zero_or_pos (i - us.length) with h | h
        · exact h
        · rw [List.getElem?_eq_none (by simp; omega)] at hi; cases hi
      rw [this] at hi; simp at hi
      exact .inl ⟨by omega, hi.symm⟩
  have hus : Own E T2 w2 base s.v r := (hu.mono hbase).grown hg (by
    rcases hq : s.v.ownBlock with _ | q
    · exact .inl rfl
    · exact .inr (fun e => own_ne hT h2' hu q hq e.symm))
  have hrows : ∀ (i : Nat) (u : Slc) (r' : List α), us[i]? = some u → p[i]? = some r' → Own E T2 w2 base u.v r' := fun i u r' hi hr' =>
    ((h3 i u r' hi hr').below hb).grown hg (by
      rcases hq : u.v.ownBlock with _ | q
      · exact .inl rfl
      · exact .inr (fun e => h5 i u hi q hq e.symm))
  refine ⟨us ++ [s], by simp [h1], h2'', ?_, ?_, ?_⟩
  · intro i u r' hi hr'
    rcases split i u hi with ⟨e1, e2⟩ | ⟨hlt, hi'⟩
    · rw [e1, List.getElem?_append_right (by omega), h1, Nat.sub_self] at hr'
      simp at hr'
      rw [e2, ← hr']; exact hus
    · rw [List.getElem?_append_left (by omega)] at hr'
      exact hrows i u r' hi' hr'
  · intro i j u u' hi hj hij q hq hq'
    rcases split i u hi with ⟨e1, e2⟩ | ⟨hlt, hi'⟩
    · rcases split j u' hj with ⟨e3, e4⟩ | ⟨hlt', hj'⟩
      · omega
      · rw [e2] at hq; have a1 := hnew q hq; have a2 := hold j u' hj' q hq'; omega
    · rcases split j u' hj with ⟨e3, e4⟩ | ⟨hlt', hj'⟩
      · rw [e4] at hq'; have a1 := hnew q hq'; have a2 := hold i u hi' q hq; omega
      · exact h4 i j u u' hi' hj' hij q hq hq'
  · intro i u hi q hq
    rcases split i u hi with ⟨e1, e2⟩ | ⟨hlt, hi'⟩
    · rw [e2] at hq; exact own_ne hT h2'' hus q hq
    · obtain ⟨r', hr'⟩ := get_of_lt (xs := p) (k := i) (by omega)
      exact own_ne hT h2'' (hrows i u r' hi' hr') q hq

theorem Own2.nil {α : Type} {E : El α} (T1 T2 : TypeId) (w : World) (base : Nat) : Own2 E T1 T2 w base (.slice none 0 0) [] :=
  ⟨[], rfl, Own.nil _ _ _, fun i u r h => by simp at h, fun i j u u' h => by simp at h, fun i u h => by simp at h⟩

theorem Own2.empty {α : Type} {E : El α} (T1 T2 : TypeId) (w : World) {base : Nat} (hb : base ≤ w.heap.size) : Own2 E T1 T2 (w.alloc (.cells #[] T1)) base (.slice (some ⟨w.heap.size, 0, none⟩) 0 0) [] :=
  ⟨[], rfl, Own.empty _ _ hb, fun i u r h => by simp at h, fun i j u u' h => by simp at h, fun i u h => by simp at h⟩

theorem Own2.mono {α : Type} {E : El α} {T1 T2 : TypeId} {w : World} {base base' : Nat} {v : Value} {p : List (List α)} (h : Own2 E T1 T2 w base v p) (hb : base' ≤ base) : Own2 E T1 T2 w base' v p := by
  obtain ⟨us, h1, h2, h3, h4, h5⟩ := h
  exact ⟨us, h1, h2.mono hb, fun i u r hu hr => (h3 i u r hu hr).mono hb, h4, h5⟩

/-- What lies wholly below the blocks that were written. (w0: the world in which it was made.) -/
theorem Own2.outLo {α : Type} {E : El α} {T1 T2 : TypeId} {lo hi : Nat} {w w' w0 : World} {base : Nat} {v : Value} {p : List (List α)} (h0 : Own2 E T1 T2 w0 base v p) (hb : Below w0.heap.size w0 w)
    (h : Outside lo hi w w') (hlo : w0.heap.size ≤ lo) : Own2 E T1 T2 w' base v p := by
  obtain ⟨us, hU, hlt⟩ := h0.told
  obtain ⟨h1, h2, h3, h4, h5⟩ := hU.below hb
  refine ⟨us, h1, h.own h2 (fun q hq => .inl (by have := (World.ownsRow.lt hU.2.1 q hq).2; omega)), fun i u r hu hr => h.own (h3 i u r hu hr) (fun q hq => .inl (by have := (hlt i u hu q hq).2; omega)), h4, h5⟩

/-- What lies wholly above them. -/
theorem Own2.outHi {α : Type} {E : El α} {T1 T2 : TypeId} {lo hi : Nat} {w w' : World} {base : Nat} {v : Value} {p : List (List α)} (h0 : Own2 E T1 T2 w base v p)
    (h : Outside lo hi w w') (hhi : hi ≤ base) : Own2 E T1 T2 w' base v p := by
  obtain ⟨us, hU, hlt⟩ := h0.told
  obtain ⟨h1, h2, h3, h4, h5⟩ := hU
  refine ⟨us, h1, h.own h2 (fun q hq => .inr (by have := (World.ownsRow.lt h2 q hq).1; omega)), fun i u r hu hr => h.own (h3 i u r hu hr) (fun q hq => .inr (by have := (hlt i u hu q hq).1; omega)), h4, h5⟩

end Go.Proofs.Ytpjebgiejkglpaa

namespace Go.Proofs.Ytpjebgiejkglpaa
open Go.RowKit

theorem Try.infoCond : (Try.prog.info? 27).map (fun i => (i.zero, i.size, i.bytes)) = some (some (.agg #[.int .i64 0, .int .i64 0, .int .i64 0, .int .i64 0, .slice none 0 0]), 5, 56) := by kernel_rfl

theorem some_bool (p : Prop) : ∃ b : Bool, b = true ↔ p := by
  by_cases h : p
  · exact ⟨true, by simp [h]⟩
  · exact ⟨false, by simp [h]⟩

/-- What the size of the parts leaves, or -1. -/
def szK (ks : List Cd) (l : Int) : Int := if l - descs ks < 0 then -1 else l - descs ks

theorem descs_rest (ks : List Cd) {k : Nat} (h : ks.length ≤ k) : descs (ks.take k) = descs ks := by rw [List.take_of_length_le h]

end Go.Proofs.Ytpjebgiejkglpaa

namespace Go.Proofs.Ytpjebgiejkglpaa

def inR (x hi : Int) : Bool := decide (0 ≤ x) && decide (x ≤ hi)
/-- The fields of a node are right; it has n parts. -/
def nodeR (o t p x : Int) (n : Nat) : Bool :=
  if o = 1 then inR t 2 && inR p 2 && inR x 3 && decide (n = 0)
  else if o = 2 then decide (t = 0) && inR p 2 && inR x 3 && decide (n = 0)
  else if o = 3 ∨ o = 4 then decide (t = 0) && decide (p = 0) && decide (x = 0) && decide (n = 2)
  else decide (o = 5) && decide (t = 0) && decide (p = 0) && decide (x = 0) && decide (n = 1)
def nodeB (c : Cd) : Bool := nodeR c.op c.th c.pl c.val c.kids.length
def shapeF : Nat → Cd → Bool
  | 0, _ => false
  | d + 1, c => nodeB c && c.kids.all (shapeF d)
def nodes (c : Cd) : Nat := descs c.kids + 1
def validC (c : Cd) : Bool := shapeF 10 c && decide (nodes c ≤ 30)

theorem shapeF_succ (d : Nat) (c : Cd) : shapeF (d + 1) c = true ↔ nodeB c = true ∧ ∀ k ∈ c.kids, shapeF d k = true := by
  simp [shapeF]

theorem nodeB_kids {c : Cd} (h : nodeB c = true) : c.kids.length ≤ 2 := by
  unfold nodeB nodeR at h
  split at h
  · simp only [Bool.and_eq_true, decide_eq_true_eq] at h; omega
  · split at h
    · simp only [Bool.and_eq_true, decide_eq_true_eq] at h; omega
    · split at h
      · simp only [Bool.and_eq_true, decide_eq_true_eq] at h; omega
      · simp only [Bool.and_eq_true, decide_eq_true_eq] at h; omega

/-- What the size of a condition says: r is its number of nodes, or more than 30 where it is not right. -/
structure SzOK (d : Nat) (c : Cd) (r : Int) : Prop where
  low : 1 ≤ r
  high : r ≤ 31 + 30 * d
  iff : r ≤ 30 ↔ (shapeF d c = true ∧ nodes c ≤ 30)
  eq : r ≤ 30 → r = nodes c

theorem SzOK.bad0 (c : Cd) : SzOK 0 c 31 := ⟨by omega, by omega, by simp [shapeF], by omega⟩
theorem SzOK.bad {d : Nat} {c : Cd} (h : nodeB c = false) : SzOK (d + 1) c 31 := ⟨by omega, by omega, by
  constructor
  · intro h; omega
  · rintro ⟨h1, _⟩
    rw [shapeF_succ, h] at h1
    simp at h1, by omega⟩

/-- So many parts are counted and right. -/
structure SzTo (d : Nat) (ks : List Cd) (k : Nat) (r : Int) : Prop where
  eq : r = 1 + descs (ks.take k)
  le : r ≤ 30
  all : ∀ c ∈ ks.take k, shapeF d c = true

theorem SzTo.zero (d : Nat) (ks : List Cd) : SzTo d ks 0 1 := ⟨by simp [descs], by omega, by simp⟩
theorem SzTo.low {d : Nat} {ks : List Cd} {k : Nat} {r : Int} (h : SzTo d ks k r) : 1 ≤ r := by have := h.eq; omega

theorem SzTo.next {d : Nat} {ks : List Cd} {k : Nat} {r r' : Int} {x : Cd} (h : SzTo d ks k r) (hx : ks[k]? = some x) (hr : SzOK d x r') (hle : r + r' ≤ 30) : SzTo d ks (k + 1) (r + r') := by
  have h1 := h.low
  have h2 := hr.eq (by omega)
  obtain ⟨h3, h4⟩ := hr.iff.1 (by omega)
  refine ⟨?_, hle, ?_⟩
  · rw [descs_take_succ hx, h.eq, h2]; unfold nodes; omega
  · intro c hc
    rw [List.take_add_one, hx] at hc
    simp at hc
    rcases hc with hc | rfl
    · exact h.all c hc
    · exact h3

theorem SzTo.more {d : Nat} {c : Cd} {k : Nat} {r r' : Int} {x : Cd} (h : SzTo d c.kids k r) (hx : c.kids[k]? = some x) (hr : SzOK d x r') (hgt : ¬ r + r' ≤ 30) : SzOK (d + 1) c (r + r') := by
  have h1 := h.low
  have h0 := hr.low
  have h5 := hr.high
  refine ⟨by omega, by have := h.le; omega, ⟨fun h => absurd h hgt, ?_⟩, fun h => absurd h hgt⟩
  rintro ⟨hs, hn⟩
  exfalso
  apply hgt
  rw [shapeF_succ] at hs
  have hm := List.mem_of_getElem? hx
  have hk := descs_kid hx
  have h6 := hr.iff.2 ⟨hs.2 x hm, by unfold nodes at hn ⊢; omega⟩
  have h7 := hr.eq h6
  rw [h.eq, h7]
  unfold nodes at hn ⊢; omega

theorem SzTo.done {d : Nat} {c : Cd} {k : Nat} {r : Int} (h : SzTo d c.kids k r) (hn : nodeB c = true) (hk : c.kids.length ≤ k) : SzOK (d + 1) c r := by
  have h1 := h.low
  have h2 := h.le
  have h3 := h.eq
  have h4 := h.all
  rw [List.take_of_length_le hk] at h3 h4
  exact ⟨h1, by omega, ⟨fun _ => ⟨(shapeF_succ d c).2 ⟨hn, h4⟩, by unfold nodes; omega⟩, fun _ => h2⟩, fun _ => by unfold nodes; omega⟩

theorem SzOK.valid {c : Cd} {r : Int} (h : SzOK 10 c r) : decide (r ≤ 30) = validC c := by
  unfold validC
  rw [Bool.eq_iff_iff]
  simp [h.iff]

/-- What a count up to a number says. -/
structure CnOK (c : Cd) (m r : Int) : Prop where
  low : 1 ≤ r
  high : r ≤ nodes c
  eq : r ≤ m → r = nodes c

/-- So many parts are counted. -/
structure CnTo (ks : List Cd) (m : Int) (k : Nat) (r : Int) : Prop where
  low : 1 ≤ r
  high : r ≤ 1 + descs (ks.take k)
  eq : r ≤ m → r = 1 + descs (ks.take k)

theorem CnTo.zero (ks : List Cd) (m : Int) : CnTo ks m 0 1 := ⟨by omega, by omega, fun _ => by simp [descs]⟩
theorem CnTo.next {ks : List Cd} {m : Int} {k : Nat} {r r' : Int} {x : Cd} (h : CnTo ks m k r) (hx : ks[k]? = some x) (hm : r ≤ m) (hr : CnOK x (m - r) r') : CnTo ks m (k + 1) (r + r') := by
  have h1 := h.low; have h2 := h.high; have h3 := h.eq hm
  have h4 := hr.low; have h5 := hr.high
  unfold nodes at h5
  refine ⟨by omega, by rw [descs_take_succ hx]; omega, fun hle => ?_⟩
  have := hr.eq (by omega)
  unfold nodes at this
  rw [descs_take_succ hx]; omega

theorem CnTo.done {c : Cd} {m : Int} {k : Nat} {r : Int} (h : CnTo c.kids m k r) (hk : c.kids.length ≤ k ∨ ¬ r ≤ m) : CnOK c m r := by
  have h1 := h.low; have h2 := h.high; have h3 := descs_take_le c.kids k
  refine ⟨h1, by unfold nodes; omega, fun hm => ?_⟩
  rcases hk with hk | hk
  · have := h.eq hm
    rw [List.take_of_length_le hk] at this
    unfold nodes; omega
  · exact absurd hm hk

theorem CnOK.le {c : Cd} {r : Int} (h : CnOK c 30 r) : decide (r ≤ 30) = decide (nodes c ≤ 30) := by
  have h1 := h.high
  rw [Bool.eq_iff_iff]
  simp only [decide_eq_true_eq]
  constructor
  · intro hr; have := h.eq hr; omega
  · intro hn; omega

end Go.Proofs.Ytpjebgiejkglpaa

namespace Go.Proofs.Ytpjebgiejkglpaa
open Go.RowKit

theorem nat_eq_int (n k : Nat) : ((n : Int) == (k : Int)) = decide (n = k) := by rw [Bool.eq_iff_iff]; simp only [beq_iff_eq, decide_eq_true_eq]; omega
theorem nodeR_1 (t p x : Int) (n : Nat) : nodeR 1 t p x n = (inB t 0 2 && (inB p 0 2 && (inB x 0 3 && ((n : Int) == ((0 : Nat) : Int))))) := by
  rw [nat_eq_int]; simp [nodeR, inR, inB, Bool.and_assoc]
theorem nodeR_2 (t p x : Int) (n : Nat) : nodeR 2 t p x n = ((t == 0) && (inB p 0 2 && (inB x 0 3 && ((n : Int) == ((0 : Nat) : Int))))) := by
  rw [nat_eq_int]; simp [nodeR, inR, inB, Bool.and_assoc]; rw [show (t == 0) = decide (t = 0) from rfl]
theorem nodeR_3 (o t p x : Int) (n : Nat) (h : o = 3 ∨ o = 4) : nodeR o t p x n = ((t == 0) && ((p == 0) && ((x == 0) && ((n : Int) == ((2 : Nat) : Int))))) := by
  rw [nat_eq_int]
  rcases h with rfl | rfl <;> simp [nodeR, Bool.and_assoc] <;> rfl
theorem nodeR_5 (t p x : Int) (n : Nat) : nodeR 5 t p x n = ((t == 0) && ((p == 0) && ((x == 0) && ((n : Int) == ((1 : Nat) : Int))))) := by
  rw [nat_eq_int]; simp [nodeR, Bool.and_assoc]; rfl
theorem nodeR_0 (o t p x : Int) (n : Nat) (h1 : o ≠ 1) (h2 : o ≠ 2) (h3 : o ≠ 3) (h4 : o ≠ 4) (h5 : o ≠ 5) : nodeR o t p x n = false := by
  simp [nodeR, h1, h2, h3, h4, h5]

set_option maxHeartbeats 1600000 in
theorem isCondNode_raw (o t p x : Int) (a : Option Addr) (n c : Nat) (w : World) :
    Calls Try.prog 50 #[.agg #[.int .i64 o, .int .i64 t, .int .i64 p, .int .i64 x, .slice a n c]] w fun e w' => e = .returned (.bool (nodeR o t p x n)) ∧ Below w.heap.size w w' := by
  have HB := hide ((Below.refl w.heap.size w).alloc (Nat.le_refl _) (.cells #[.int .i64 o, .int .i64 t, .int .i64 p, .int .i64 x, .slice a n c] 27))
  by_cases h1 : o = 1
  · subst h1
    have E := hide (nodeR_1 t p x n)
    generalize nodeR 1 t p x n = R at *
    have HA := hide (fun w' => within_any t 0 2 w')
    generalize inB t 0 2 = A at *
    have HBB := hide (fun w' => within_any p 0 2 w')
    generalize inB p 0 2 = B at *
    have HC := hide (fun w' => within_any x 0 3 w')
    generalize inB x 0 3 = C at *
    cases A
    · go_enter Try.func50, Try.ntmps50
      go_wp2_with (first | (go_at_call 26; (with_reducible refine (HA.out _).mono ?_); rintro e w1 ⟨rfl, rfl⟩) | (go_at_call 26; (with_reducible refine (HBB.out _).mono ?_); rintro e w1 ⟨rfl, rfl⟩) | (go_at_call 26; (with_reducible refine (HC.out _).mono ?_); rintro e w1 ⟨rfl, rfl⟩))
      go_ret
      exact ⟨by rw [E.out]; rfl, HB.out⟩
    · cases B
      · go_enter Try.func50, Try.ntmps50
        go_wp2_with (first | (go_at_call 26; (with_reducible refine (HA.out _).mono ?_); rintro e w1 ⟨rfl, rfl⟩) | (go_at_call 26; (with_reducible refine (HBB.out _).mono ?_); rintro e w1 ⟨rfl, rfl⟩) | (go_at_call 26; (with_reducible refine (HC.out _).mono ?_); rintro e w1 ⟨rfl, rfl⟩))
        go_ret
        exact ⟨by rw [E.out]; rfl, HB.out⟩
      · cases C
        · go_enter Try.func50, Try.ntmps50
          go_wp2_with (first | (go_at_call 26; (with_reducible refine (HA.out _).mono ?_); rintro e w1 ⟨rfl, rfl⟩) | (go_at_call 26; (with_reducible refine (HBB.out _).mono ?_); rintro e w1 ⟨rfl, rfl⟩) | (go_at_call 26; (with_reducible refine (HC.out _).mono ?_); rintro e w1 ⟨rfl, rfl⟩))
          go_ret
          exact ⟨by rw [E.out]; rfl, HB.out⟩
        · go_enter Try.func50, Try.ntmps50
          go_wp2_with (first | (go_at_call 26; (with_reducible refine (HA.out _).mono ?_); rintro e w1 ⟨rfl, rfl⟩) | (go_at_call 26; (with_reducible refine (HBB.out _).mono ?_); rintro e w1 ⟨rfl, rfl⟩) | (go_at_call 26; (with_reducible refine (HC.out _).mono ?_); rintro e w1 ⟨rfl, rfl⟩))
          go_ret
          exact ⟨by rw [E.out]; rfl, HB.out⟩
  by_cases h2 : o = 2
  · subst h2
    have E := hide (nodeR_2 t p x n)
    generalize nodeR 2 t p x n = R at *
    generalize hA : (t == 0) = A at *
    have HBB := hide (fun w' => within_any p 0 2 w')
    generalize inB p 0 2 = B at *
    have HC := hide (fun w' => within_any x 0 3 w')
    generalize inB x 0 3 = C at *
    cases A
    · go_enter Try.func50, Try.ntmps50
      go_wp2_with (first | (go_at_call 26; (with_reducible refine (HBB.out _).mono ?_); rintro e w1 ⟨rfl, rfl⟩) | (go_at_call 26; (with_reducible refine (HC.out _).mono ?_); rintro e w1 ⟨rfl, rfl⟩))
      go_ret
      exact ⟨by rw [E.out]; rfl, HB.out⟩
    · cases B
      · go_enter Try.func50, Try.ntmps50
        go_wp2_with (first | (go_at_call 26; (with_reducible refine (HBB.out _).mono ?_); rintro e w1 ⟨rfl, rfl⟩) | (go_at_call 26; (with_reducible refine (HC.out _).mono ?_); rintro e w1 ⟨rfl, rfl⟩))
        go_ret
        exact ⟨by rw [E.out]; rfl, HB.out⟩
      · cases C
        · go_enter Try.func50, Try.ntmps50
          go_wp2_with (first | (go_at_call 26; (with_reducible refine (HBB.out _).mono ?_); rintro e w1 ⟨rfl, rfl⟩) | (go_at_call 26; (with_reducible refine (HC.out _).mono ?_); rintro e w1 ⟨rfl, rfl⟩))
          go_ret
          exact ⟨by rw [E.out]; rfl, HB.out⟩
        · go_enter Try.func50, Try.ntmps50
          go_wp2_with (first | (go_at_call 26; (with_reducible refine (HBB.out _).mono ?_); rintro e w1 ⟨rfl, rfl⟩) | (go_at_call 26; (with_reducible refine (HC.out _).mono ?_); rintro e w1 ⟨rfl, rfl⟩))
          go_ret
          exact ⟨by rw [E.out]; rfl, HB.out⟩
  by_cases h3 : o = 3
  · subst h3
    have E := hide (nodeR_3 3 t p x n (.inl rfl))
    generalize nodeR 3 t p x n = R at *
    generalize hA : (t == 0) = A at *
    generalize hB : (p == 0) = B at *
    generalize hC : (x == 0) = C at *
    cases A
    · go_enter Try.func50, Try.ntmps50
      go_wp2_with fail
      go_ret
      exact ⟨by rw [E.out]; rfl, HB.out⟩
    · cases B
      · go_enter Try.func50, Try.ntmps50
        go_wp2_with fail
        go_ret
        exact ⟨by rw [E.out]; rfl, HB.out⟩
      · cases C
        · go_enter Try.func50, Try.ntmps50
          go_wp2_with fail
          go_ret
          exact ⟨by rw [E.out]; rfl, HB.out⟩
        · go_enter Try.func50, Try.ntmps50
          go_wp2_with fail
          go_ret
          exact ⟨by rw [E.out]; rfl, HB.out⟩
  by_cases h4 : o = 4
  · subst h4
    have E := hide (nodeR_3 4 t p x n (.inr rfl))
    generalize nodeR 4 t p x n = R at *
    generalize hA : (t == 0) = A at *
    generalize hB : (p == 0) = B at *
    generalize hC : (x == 0) = C at *
    cases A
    · go_enter Try.func50, Try.ntmps50
      go_wp2_with fail
      go_ret
      exact ⟨by rw [E.out]; rfl, HB.out⟩
    · cases B
      · go_enter Try.func50, Try.ntmps50
        go_wp2_with fail
        go_ret
        exact ⟨by rw [E.out]; rfl, HB.out⟩
      · cases C
        · go_enter Try.func50, Try.ntmps50
          go_wp2_with fail
          go_ret
          exact ⟨by rw [E.out]; rfl, HB.out⟩
        · go_enter Try.func50, Try.ntmps50
          go_wp2_with fail
          go_ret
          exact ⟨by rw [E.out]; rfl, HB.out⟩
  by_cases h5 : o = 5
  · subst h5
    have E := hide (nodeR_5 t p x n)
    generalize nodeR 5 t p x n = R at *
    generalize hA : (t == 0) = A at *
    generalize hB : (p == 0) = B at *
    generalize hC : (x == 0) = C at *
    cases A
    · go_enter Try.func50, Try.ntmps50
      go_wp2_with fail
      go_ret
      exact ⟨by rw [E.out]; rfl, HB.out⟩
    · cases B
      · go_enter Try.func50, Try.ntmps50
        go_wp2_with fail
        go_ret
        exact ⟨by rw [E.out]; rfl, HB.out⟩
      · cases C
        · go_enter Try.func50, Try.ntmps50
          go_wp2_with fail
          go_ret
          exact ⟨by rw [E.out]; rfl, HB.out⟩
        · go_enter Try.func50, Try.ntmps50
          go_wp2_with fail
          go_ret
          exact ⟨by rw [E.out]; rfl, HB.out⟩
  have E := hide (nodeR_0 o t p x n h1 h2 h3 h4 h5)
  generalize nodeR o t p x n = R at *
  have g1 : (o == 1) = false := by simp [h1]
  have g2 : (o == 2) = false := by simp [h2]
  have g3 : (o == 3) = false := by simp [h3]
  have g4 : (o == 4) = false := by simp [h4]
  have g5 : (o == 5) = false := by simp [h5]
  clear h1 h2 h3 h4 h5
  go_enter Try.func50, Try.ntmps50
  go_wp2_with fail
  go_ret
  exact ⟨by rw [E.out]; rfl, HB.out⟩
theorem l11Kids_1 (w : World) : Calls Try.prog 96 #[.int .i64 1] w fun e w' => e = .returned (.int .i64 0) ∧ w = w' := by
  go_enter Try.func96, Try.ntmps96
  go_wp2
  go_ret
  exact ⟨rfl, rfl⟩
theorem l11Kids_2 (w : World) : Calls Try.prog 96 #[.int .i64 2] w fun e w' => e = .returned (.int .i64 0) ∧ w = w' := by
  go_enter Try.func96, Try.ntmps96
  go_wp2
  go_ret
  exact ⟨rfl, rfl⟩
theorem l11Kids_3 (w : World) : Calls Try.prog 96 #[.int .i64 3] w fun e w' => e = .returned (.int .i64 2) ∧ w = w' := by
  go_enter Try.func96, Try.ntmps96
  go_wp2
  go_ret
  exact ⟨rfl, rfl⟩
theorem l11Kids_4 (w : World) : Calls Try.prog 96 #[.int .i64 4] w fun e w' => e = .returned (.int .i64 2) ∧ w = w' := by
  go_enter Try.func96, Try.ntmps96
  go_wp2
  go_ret
  exact ⟨rfl, rfl⟩
theorem l11Kids_5 (w : World) : Calls Try.prog 96 #[.int .i64 5] w fun e w' => e = .returned (.int .i64 1) ∧ w = w' := by
  go_enter Try.func96, Try.ntmps96
  go_wp2
  go_ret
  exact ⟨rfl, rfl⟩
theorem l11Kids_0 (o : Int) (w : World) (g1 : (o == 1) = false) (g2 : (o == 2) = false) (g3 : (o == 3) = false) (g4 : (o == 4) = false) (g5 : (o == 5) = false) : Calls Try.prog 96 #[.int .i64 o] w fun e w' => e = .returned (.int .i64 (-1)) ∧ w = w' := by
  go_enter Try.func96, Try.ntmps96
  go_wp2_with fail
  go_ret
  exact ⟨rfl, rfl⟩
set_option maxHeartbeats 1600000 in
theorem l11Own_raw (o t p x : Int) (a : Option Addr) (n c : Nat) (w : World) :
    Calls Try.prog 70 #[.agg #[.int .i64 o, .int .i64 t, .int .i64 p, .int .i64 x, .slice a n c]] w fun e w' => e = .returned (.bool (nodeR o t p x n)) ∧ Below w.heap.size w w' := by
  have HB := hide ((Below.refl w.heap.size w).alloc (Nat.le_refl _) (.cells #[.int .i64 o, .int .i64 t, .int .i64 p, .int .i64 x, .slice a n c] 27))
  by_cases h1 : o = 1
  · subst h1
    have E0 := hide (nodeR_1 t p x n)
    generalize nodeR 1 t p x n = R at *
    have HA := hide (fun w' => l1In_any t 2 w')
    generalize inB t 0 2 = A at *
    have HBB := hide (fun w' => l1In_any p 2 w')
    generalize inB p 0 2 = B at *
    have HC := hide (fun w' => l1In_any x 3 w')
    generalize inB x 0 3 = C at *
    by_cases hn : n = 0
    · subst hn
      have E : Hid (R = (A && (B && C))) := hide (by rw [E0.out]; simp)
      cases A
      · go_enter Try.func70, Try.ntmps70
        go_wp2_with fail
        refine wp_region_bw (by kernel_rfl) (by kernel_rfl) ?_
        repeat (go_big_quiet_step ((go_at_call 96; exact Calls.bw_same (l11Kids_1 _))))
        refine wpQuiet_nil ?_
        intro w1 hb1
        obtain ⟨hc1, hf1⟩ := bcell hb1
        have HB1 := hide hb1; clear hb1
        go_wp2_with (first | (go_at_call 43; (with_reducible refine (HA.out _).mono ?_); rintro e w2 ⟨rfl, rfl⟩) | (go_at_call 43; (with_reducible refine (HBB.out _).mono ?_); rintro e w2 ⟨rfl, rfl⟩) | (go_at_call 43; (with_reducible refine (HC.out _).mono ?_); rintro e w2 ⟨rfl, rfl⟩))
        go_ret
        exact ⟨by rw [E.out]; rfl, HB.out.trans (HB1.out.mono HB.out.size)⟩
      · cases B
        · go_enter Try.func70, Try.ntmps70
          go_wp2_with fail
          refine wp_region_bw (by kernel_rfl) (by kernel_rfl) ?_
          repeat (go_big_quiet_step ((go_at_call 96; exact Calls.bw_same (l11Kids_1 _))))
          refine wpQuiet_nil ?_
          intro w1 hb1
          obtain ⟨hc1, hf1⟩ := bcell hb1
          have HB1 := hide hb1; clear hb1
          go_wp2_with (first | (go_at_call 43; (with_reducible refine (HA.out _).mono ?_); rintro e w2 ⟨rfl, rfl⟩) | (go_at_call 43; (with_reducible refine (HBB.out _).mono ?_); rintro e w2 ⟨rfl, rfl⟩) | (go_at_call 43; (with_reducible refine (HC.out _).mono ?_); rintro e w2 ⟨rfl, rfl⟩))
          go_ret
          exact ⟨by rw [E.out]; rfl, HB.out.trans (HB1.out.mono HB.out.size)⟩
        · cases C
          · go_enter Try.func70, Try.ntmps70
            go_wp2_with fail
            refine wp_region_bw (by kernel_rfl) (by kernel_rfl) ?_
            repeat (go_big_quiet_step ((go_at_call 96; exact Calls.bw_same (l11Kids_1 _))))
            refine wpQuiet_nil ?_
            intro w1 hb1
            obtain ⟨hc1, hf1⟩ := bcell hb1
            have HB1 := hide hb1; clear hb1
            go_wp2_with (first | (go_at_call 43; (with_reducible refine (HA.out _).mono ?_); rintro e w2 ⟨rfl, rfl⟩) | (go_at_call 43; (with_reducible refine (HBB.out _).mono ?_); rintro e w2 ⟨rfl, rfl⟩) | (go_at_call 43; (with_reducible refine (HC.out _).mono ?_); rintro e w2 ⟨rfl, rfl⟩))
            go_ret
            exact ⟨by rw [E.out]; rfl, HB.out.trans (HB1.out.mono HB.out.size)⟩
          · go_enter Try.func70, Try.ntmps70
            go_wp2_with fail
            refine wp_region_bw (by kernel_rfl) (by kernel_rfl) ?_
            repeat (go_big_quiet_step ((go_at_call 96; exact Calls.bw_same (l11Kids_1 _))))
            refine wpQuiet_nil ?_
            intro w1 hb1
            obtain ⟨hc1, hf1⟩ := bcell hb1
            have HB1 := hide hb1; clear hb1
            go_wp2_with (first | (go_at_call 43; (with_reducible refine (HA.out _).mono ?_); rintro e w2 ⟨rfl, rfl⟩) | (go_at_call 43; (with_reducible refine (HBB.out _).mono ?_); rintro e w2 ⟨rfl, rfl⟩) | (go_at_call 43; (with_reducible refine (HC.out _).mono ?_); rintro e w2 ⟨rfl, rfl⟩))
            go_ret
            exact ⟨by rw [E.out]; rfl, HB.out.trans (HB1.out.mono HB.out.size)⟩
    · have gn : ((n : Int) != 0) = true := by simp; omega
      have E : Hid (R = false) := hide (by rw [E0.out, nat_eq_int]; simp [hn])
      clear hn
      go_enter Try.func70, Try.ntmps70
      go_wp2_with fail
      refine wp_region_bw (by kernel_rfl) (by kernel_rfl) ?_
      repeat (go_big_quiet_step ((go_at_call 96; exact Calls.bw_same (l11Kids_1 _))))
      refine wpQuiet_nil ?_
      intro w1 hb1
      obtain ⟨hc1, hf1⟩ := bcell hb1
      have HB1 := hide hb1; clear hb1
      go_wp2_with fail
      go_ret
      exact ⟨by rw [E.out]; rfl, HB.out.trans (HB1.out.mono HB.out.size)⟩
  by_cases h2 : o = 2
  · subst h2
    have E0 := hide (nodeR_2 t p x n)
    generalize nodeR 2 t p x n = R at *
    generalize hA : (t == 0) = A at *
    have HBB := hide (fun w' => l1In_any p 2 w')
    generalize inB p 0 2 = B at *
    have HC := hide (fun w' => l1In_any x 3 w')
    generalize inB x 0 3 = C at *
    by_cases hn : n = 0
    · subst hn
      have E : Hid (R = (A && (B && C))) := hide (by rw [E0.out]; simp)
      cases A
      · go_enter Try.func70, Try.ntmps70
        go_wp2_with fail
        refine wp_region_bw (by kernel_rfl) (by kernel_rfl) ?_
        repeat (go_big_quiet_step ((go_at_call 96; exact Calls.bw_same (l11Kids_2 _))))
        refine wpQuiet_nil ?_
        intro w1 hb1
        obtain ⟨hc1, hf1⟩ := bcell hb1
        have HB1 := hide hb1; clear hb1
        go_wp2_with (first | (go_at_call 43; (with_reducible refine (HBB.out _).mono ?_); rintro e w2 ⟨rfl, rfl⟩) | (go_at_call 43; (with_reducible refine (HC.out _).mono ?_); rintro e w2 ⟨rfl, rfl⟩))
        go_ret
        exact ⟨by rw [E.out]; rfl, HB.out.trans (HB1.out.mono HB.out.size)⟩
      · cases B
        · go_enter Try.func70, Try.ntmps70
          go_wp2_with fail
          refine wp_region_bw (by kernel_rfl) (by kernel_rfl) ?_
          repeat (go_big_quiet_step ((go_at_call 96; exact Calls.bw_same (l11Kids_2 _))))
          refine wpQuiet_nil ?_
          intro w1 hb1
          obtain ⟨hc1, hf1⟩ := bcell hb1
          have HB1 := hide hb1; clear hb1
          go_wp2_with (first | (go_at_call 43; (with_reducible refine (HBB.out _).mono ?_); rintro e w2 ⟨rfl, rfl⟩) | (go_at_call 43; (with_reducible refine (HC.out _).mono ?_); rintro e w2 ⟨rfl, rfl⟩))
          go_ret
          exact ⟨by rw [E.out]; rfl, HB.out.trans (HB1.out.mono HB.out.size)⟩
        · cases C
          · go_enter Try.func70, Try.ntmps70
            go_wp2_with fail
            refine wp_region_bw (by kernel_rfl) (by kernel_rfl) ?_
            repeat (go_big_quiet_step ((go_at_call 96; exact Calls.bw_same (l11Kids_2 _))))
            refine wpQuiet_nil ?_
            intro w1 hb1
            obtain ⟨hc1, hf1⟩ := bcell hb1
            have HB1 := hide hb1; clear hb1
            go_wp2_with (first | (go_at_call 43; (with_reducible refine (HBB.out _).mono ?_); rintro e w2 ⟨rfl, rfl⟩) | (go_at_call 43; (with_reducible refine (HC.out _).mono ?_); rintro e w2 ⟨rfl, rfl⟩))
            go_ret
            exact ⟨by rw [E.out]; rfl, HB.out.trans (HB1.out.mono HB.out.size)⟩
          · go_enter Try.func70, Try.ntmps70
            go_wp2_with fail
            refine wp_region_bw (by kernel_rfl) (by kernel_rfl) ?_
            repeat (go_big_quiet_step ((go_at_call 96; exact Calls.bw_same (l11Kids_2 _))))
            refine wpQuiet_nil ?_
            intro w1 hb1
            obtain ⟨hc1, hf1⟩ := bcell hb1
            have HB1 := hide hb1; clear hb1
            go_wp2_with (first | (go_at_call 43; (with_reducible refine (HBB.out _).mono ?_); rintro e w2 ⟨rfl, rfl⟩) | (go_at_call 43; (with_reducible refine (HC.out _).mono ?_); rintro e w2 ⟨rfl, rfl⟩))
            go_ret
            exact ⟨by rw [E.out]; rfl, HB.out.trans (HB1.out.mono HB.out.size)⟩
    · have gn : ((n : Int) != 0) = true := by simp; omega
      have E : Hid (R = false) := hide (by rw [E0.out, nat_eq_int]; simp [hn])
      clear hn
      go_enter Try.func70, Try.ntmps70
      go_wp2_with fail
      refine wp_region_bw (by kernel_rfl) (by kernel_rfl) ?_
      repeat (go_big_quiet_step ((go_at_call 96; exact Calls.bw_same (l11Kids_2 _))))
      refine wpQuiet_nil ?_
      intro w1 hb1
      obtain ⟨hc1, hf1⟩ := bcell hb1
      have HB1 := hide hb1; clear hb1
      go_wp2_with fail
      go_ret
      exact ⟨by rw [E.out]; rfl, HB.out.trans (HB1.out.mono HB.out.size)⟩
  by_cases h3 : o = 3
  · subst h3
    have E0 := hide (nodeR_3 3 t p x n (.inl rfl))
    generalize nodeR 3 t p x n = R at *
    generalize hA : (t == 0) = A at *
    generalize hB : (p == 0) = B at *
    generalize hC : (x == 0) = C at *
    by_cases hn : n = 2
    · subst hn
      have E : Hid (R = (A && (B && C))) := hide (by rw [E0.out]; simp)
      cases A
      · go_enter Try.func70, Try.ntmps70
        go_wp2_with fail
        refine wp_region_bw (by kernel_rfl) (by kernel_rfl) ?_
        repeat (go_big_quiet_step ((go_at_call 96; exact Calls.bw_same (l11Kids_3 _))))
        refine wpQuiet_nil ?_
        intro w1 hb1
        obtain ⟨hc1, hf1⟩ := bcell hb1
        have HB1 := hide hb1; clear hb1
        go_wp2_with fail
        go_ret
        exact ⟨by rw [E.out]; rfl, HB.out.trans (HB1.out.mono HB.out.size)⟩
      · cases B
        · go_enter Try.func70, Try.ntmps70
          go_wp2_with fail
          refine wp_region_bw (by kernel_rfl) (by kernel_rfl) ?_
          repeat (go_big_quiet_step ((go_at_call 96; exact Calls.bw_same (l11Kids_3 _))))
          refine wpQuiet_nil ?_
          intro w1 hb1
          obtain ⟨hc1, hf1⟩ := bcell hb1
          have HB1 := hide hb1; clear hb1
          go_wp2_with fail
          go_ret
          exact ⟨by rw [E.out]; rfl, HB.out.trans (HB1.out.mono HB.out.size)⟩
        · cases C
          · go_enter Try.func70, Try.ntmps70
            go_wp2_with fail
            refine wp_region_bw (by kernel_rfl) (by kernel_rfl) ?_
            repeat (go_big_quiet_step ((go_at_call 96; exact Calls.bw_same (l11Kids_3 _))))
            refine wpQuiet_nil ?_
            intro w1 hb1
            obtain ⟨hc1, hf1⟩ := bcell hb1
            have HB1 := hide hb1; clear hb1
            go_wp2_with fail
            go_ret
            exact ⟨by rw [E.out]; rfl, HB.out.trans (HB1.out.mono HB.out.size)⟩
          · go_enter Try.func70, Try.ntmps70
            go_wp2_with fail
            refine wp_region_bw (by kernel_rfl) (by kernel_rfl) ?_
            repeat (go_big_quiet_step ((go_at_call 96; exact Calls.bw_same (l11Kids_3 _))))
            refine wpQuiet_nil ?_
            intro w1 hb1
            obtain ⟨hc1, hf1⟩ := bcell hb1
            have HB1 := hide hb1; clear hb1
            go_wp2_with fail
            go_ret
            exact ⟨by rw [E.out]; rfl, HB.out.trans (HB1.out.mono HB.out.size)⟩
    · have gn : ((n : Int) != 2) = true := by simp; omega
      have E : Hid (R = false) := hide (by rw [E0.out, nat_eq_int]; simp [hn])
      clear hn
      go_enter Try.func70, Try.ntmps70
      go_wp2_with fail
      refine wp_region_bw (by kernel_rfl) (by kernel_rfl) ?_
      repeat (go_big_quiet_step ((go_at_call 96; exact Calls.bw_same (l11Kids_3 _))))
      refine wpQuiet_nil ?_
      intro w1 hb1
      obtain ⟨hc1, hf1⟩ := bcell hb1
      have HB1 := hide hb1; clear hb1
      go_wp2_with fail
      go_ret
      exact ⟨by rw [E.out]; rfl, HB.out.trans (HB1.out.mono HB.out.size)⟩
  by_cases h4 : o = 4
  · subst h4
    have E0 := hide (nodeR_3 4 t p x n (.inr rfl))
    generalize nodeR 4 t p x n = R at *
    generalize hA : (t == 0) = A at *
    generalize hB : (p == 0) = B at *
    generalize hC : (x == 0) = C at *
    by_cases hn : n = 2
    · subst hn
      have E : Hid (R = (A && (B && C))) := hide (by rw [E0.out]; simp)
      cases A
      · go_enter Try.func70, Try.ntmps70
        go_wp2_with fail
        refine wp_region_bw (by kernel_rfl) (by kernel_rfl) ?_
        repeat (go_big_quiet_step ((go_at_call 96; exact Calls.bw_same (l11Kids_4 _))))
        refine wpQuiet_nil ?_
        intro w1 hb1
        obtain ⟨hc1, hf1⟩ := bcell hb1
        have HB1 := hide hb1; clear hb1
        go_wp2_with fail
        go_ret
        exact ⟨by rw [E.out]; rfl, HB.out.trans (HB1.out.mono HB.out.size)⟩
      · cases B
        · go_enter Try.func70, Try.ntmps70
          go_wp2_with fail
          refine wp_region_bw (by kernel_rfl) (by kernel_rfl) ?_
          repeat (go_big_quiet_step ((go_at_call 96; exact Calls.bw_same (l11Kids_4 _))))
          refine wpQuiet_nil ?_
          intro w1 hb1
          obtain ⟨hc1, hf1⟩ := bcell hb1
          have HB1 := hide hb1; clear hb1
          go_wp2_with fail
          go_ret
          exact ⟨by rw [E.out]; rfl, HB.out.trans (HB1.out.mono HB.out.size)⟩
        · cases C
          · go_enter Try.func70, Try.ntmps70
            go_wp2_with fail
            refine wp_region_bw (by kernel_rfl) (by kernel_rfl) ?_
            repeat (go_big_quiet_step ((go_at_call 96; exact Calls.bw_same (l11Kids_4 _))))
            refine wpQuiet_nil ?_
            intro w1 hb1
            obtain ⟨hc1, hf1⟩ := bcell hb1
            have HB1 := hide hb1; clear hb1
            go_wp2_with fail
            go_ret
            exact ⟨by rw [E.out]; rfl, HB.out.trans (HB1.out.mono HB.out.size)⟩
          · go_enter Try.func70, Try.ntmps70
            go_wp2_with fail
            refine wp_region_bw (by kernel_rfl) (by kernel_rfl) ?_
            repeat (go_big_quiet_step ((go_at_call 96; exact Calls.bw_same (l11Kids_4 _))))
            refine wpQuiet_nil ?_
            intro w1 hb1
            obtain ⟨hc1, hf1⟩ := bcell hb1
            have HB1 := hide hb1; clear hb1
            go_wp2_with fail
            go_ret
            exact ⟨by rw [E.out]; rfl, HB.out.trans (HB1.out.mono HB.out.size)⟩
    · have gn : ((n : Int) != 2) = true := by simp; omega
      have E : Hid (R = false) := hide (by rw [E0.out, nat_eq_int]; simp [hn])
      clear hn
      go_enter Try.func70, Try.ntmps70
      go_wp2_with fail
      refine wp_region_bw (by kernel_rfl) (by kernel_rfl) ?_
      repeat (go_big_quiet_step ((go_at_call 96; exact Calls.bw_same (l11Kids_4 _))))
      refine wpQuiet_nil ?_
      intro w1 hb1
      obtain ⟨hc1, hf1⟩ := bcell hb1
      have HB1 := hide hb1; clear hb1
      go_wp2_with fail
      go_ret
      exact ⟨by rw [E.out]; rfl, HB.out.trans (HB1.out.mono HB.out.size)⟩
  by_cases h5 : o = 5
  · subst h5
    have E0 := hide (nodeR_5 t p x n)
    generalize nodeR 5 t p x n = R at *
    generalize hA : (t == 0) = A at *
    generalize hB : (p == 0) = B at *
    generalize hC : (x == 0) = C at *
    by_cases hn : n = 1
    · subst hn
      have E : Hid (R = (A && (B && C))) := hide (by rw [E0.out]; simp)
      cases A
      · go_enter Try.func70, Try.ntmps70
        go_wp2_with fail
        refine wp_region_bw (by kernel_rfl) (by kernel_rfl) ?_
        repeat (go_big_quiet_step ((go_at_call 96; exact Calls.bw_same (l11Kids_5 _))))
        refine wpQuiet_nil ?_
        intro w1 hb1
        obtain ⟨hc1, hf1⟩ := bcell hb1
        have HB1 := hide hb1; clear hb1
        go_wp2_with fail
        go_ret
        exact ⟨by rw [E.out]; rfl, HB.out.trans (HB1.out.mono HB.out.size)⟩
      · cases B
        · go_enter Try.func70, Try.ntmps70
          go_wp2_with fail
          refine wp_region_bw (by kernel_rfl) (by kernel_rfl) ?_
          repeat (go_big_quiet_step ((go_at_call 96; exact Calls.bw_same (l11Kids_5 _))))
          refine wpQuiet_nil ?_
          intro w1 hb1
          obtain ⟨hc1, hf1⟩ := bcell hb1
          have HB1 := hide hb1; clear hb1
          go_wp2_with fail
          go_ret
          exact ⟨by rw [E.out]; rfl, HB.out.trans (HB1.out.mono HB.out.size)⟩
        · cases C
          · go_enter Try.func70, Try.ntmps70
            go_wp2_with fail
            refine wp_region_bw (by kernel_rfl) (by kernel_rfl) ?_
            repeat (go_big_quiet_step ((go_at_call 96; exact Calls.bw_same (l11Kids_5 _))))
            refine wpQuiet_nil ?_
            intro w1 hb1
            obtain ⟨hc1, hf1⟩ := bcell hb1
            have HB1 := hide hb1; clear hb1
            go_wp2_with fail
            go_ret
            exact ⟨by rw [E.out]; rfl, HB.out.trans (HB1.out.mono HB.out.size)⟩
          · go_enter Try.func70, Try.ntmps70
            go_wp2_with fail
            refine wp_region_bw (by kernel_rfl) (by kernel_rfl) ?_
            repeat (go_big_quiet_step ((go_at_call 96; exact Calls.bw_same (l11Kids_5 _))))
            refine wpQuiet_nil ?_
            intro w1 hb1
            obtain ⟨hc1, hf1⟩ := bcell hb1
            have HB1 := hide hb1; clear hb1
            go_wp2_with fail
            go_ret
            exact ⟨by rw [E.out]; rfl, HB.out.trans (HB1.out.mono HB.out.size)⟩
    · have gn : ((n : Int) != 1) = true := by simp; omega
      have E : Hid (R = false) := hide (by rw [E0.out, nat_eq_int]; simp [hn])
      clear hn
      go_enter Try.func70, Try.ntmps70
      go_wp2_with fail
      refine wp_region_bw (by kernel_rfl) (by kernel_rfl) ?_
      repeat (go_big_quiet_step ((go_at_call 96; exact Calls.bw_same (l11Kids_5 _))))
      refine wpQuiet_nil ?_
      intro w1 hb1
      obtain ⟨hc1, hf1⟩ := bcell hb1
      have HB1 := hide hb1; clear hb1
      go_wp2_with fail
      go_ret
      exact ⟨by rw [E.out]; rfl, HB.out.trans (HB1.out.mono HB.out.size)⟩
  have E := hide (nodeR_0 o t p x n h1 h2 h3 h4 h5)
  generalize nodeR o t p x n = R at *
  have g1 : (o == 1) = false := by simp [h1]
  have g2 : (o == 2) = false := by simp [h2]
  have g3 : (o == 3) = false := by simp [h3]
  have g4 : (o == 4) = false := by simp [h4]
  have g5 : (o == 5) = false := by simp [h5]
  have gn : ((n : Int) != -1) = true := by simp
  clear h1 h2 h3 h4 h5
  go_enter Try.func70, Try.ntmps70
  go_wp2_with fail
  refine wp_region_bw (by kernel_rfl) (by kernel_rfl) ?_
  repeat (go_big_quiet_step ((go_at_call 96; exact Calls.bw_same (l11Kids_0 o _ g1 g2 g3 g4 g5))))
  refine wpQuiet_nil ?_
  intro w1 hb1
  obtain ⟨hc1, hf1⟩ := bcell hb1
  have HB1 := hide hb1; clear hb1
  go_wp2_with fail
  go_ret
  exact ⟨by rw [E.out]; rfl, HB.out.trans (HB1.out.mono HB.out.size)⟩


end Go.Proofs.Ytpjebgiejkglpaa
namespace Go.Proofs.Ytpjebgiejkglpaa
open Go.RowKit

end Go.Proofs.Ytpjebgiejkglpaa
