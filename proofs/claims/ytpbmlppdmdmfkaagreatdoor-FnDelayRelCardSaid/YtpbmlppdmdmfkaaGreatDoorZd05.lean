/-
  slices.Index, slices.Contains and slices.Clone on numbers. Condition: a bound on lengths.
-/
import Derived.Test.YtpbmlppdmdmfkaaGreatDoorZd03
import Derived.Test.YtpbmlppdmdmfkaaGreatDoorZd04
import Derived.Deep.RegionHeld3
import Derived.Deep.DeepCutAuto
import Derived.Deep.AppendLies
import Derived.Test.YtpbmlppdmdmfkaaGreatDoorZd02
namespace Go.Proofs.YtpbmlppdmdmfkaaGreatDoor
open Go.RowKit

/-- An event. -/
structure Ev where
  t : Int
  i : Int
  l : Int
  r : Bool
  w : Bool
deriving DecidableEq

def EvE : El Ev := ⟨5, by decide, fun x => [.int .i64 x.t, .int .i64 x.i, .int .i64 x.l, .bool x.r, .bool x.w], fun _ => rfl, fun x u h => by simp at h; rcases h with rfl | rfl | rfl | rfl | rfl <;> rfl⟩
theorem Tryz.infoEvent : (Tryz.prog.info? 147).map (fun i => (i.zero, i.size, i.bytes)) = some (some (.agg #[.int .i64 0, .int .i64 0, .int .i64 0, .bool false, .bool false]), 5, 32) := by kernel_rfl
abbrev OwnE (w : World) (base : Nat) (v : Value) (xs : List Ev) : Prop := Own EvE 147 w base v xs

theorem Rep.ev {w : World} {a : Option Addr} {n c : Nat} {xs : List Ev} (h : Rep EvE w (.slice a n c) xs) {k : Nat} {x : Ev} (hx : xs[k]? = some x) :
    ∃ b o, a = some ⟨b, o, none⟩ ∧ b < w.heap.size ∧ w.cell? ⟨b, o + k * 5, none⟩ = some (.int .i64 x.t) ∧ w.cell? ⟨b, o + k * 5 + 1, none⟩ = some (.int .i64 x.i) ∧
      w.cell? ⟨b, o + k * 5 + 2, none⟩ = some (.int .i64 x.l) ∧ w.cell? ⟨b, o + k * 5 + 3, none⟩ = some (.bool x.r) ∧ w.cell? ⟨b, o + k * 5 + 4, none⟩ = some (.bool x.w) := by
  obtain ⟨a', c', hv, _, _, h⟩ := h
  simp only [Value.slice.injEq] at hv
  obtain ⟨rfl, rfl, rfl⟩ := hv
  obtain ⟨b, o, rfl, h'⟩ := h k x hx
  exact ⟨b, o, rfl, lt_of_cell (h' 0 _ rfl), h' 0 _ rfl, h' 1 _ rfl, h' 2 _ rfl, h' 3 _ rfl, h' 4 _ rfl⟩

/-- One element is appended, at a step of a region that draws. -/
theorem step_app {α : Type} (E : El α) {P : Program} {w : World} {ops : Array Oper} {o : Oper} {a : Act} {K : Act → World → Prop} {Q : Exit → Act → World → Prop} {F : Prop}
    (T : TypeId) {zv : Value} {bytes : Nat} (hinfo : (P.info? T).map (fun i => (i.zero, i.size, i.bytes)) = some (some zv, E.sz, bytes)) (hz : zv.cells.size = E.sz) {t : TypeId} (h1 : P.underlying t = some (.slice T))
    (base : Nat) (v : Value) (xs : List α) (x : α) (hown : Own E T w base v xs) (hby : bytes ≤ 256) (hn : xs.length ≤ 68719476736) (hbase : base ≤ w.heap.size)
    (hg : o.guard = none) (s y : Operand) (hop : o.op = .call { callee := .builtin .append, args := #[s, y], argTypes := #[t, t] })
    (hs : a.eval s = v) (b off c : Nat) (hy : a.eval y = .slice (some ⟨b, off, none⟩) 1 c) (hnews : ∀ j u, (E.c x)[j]? = some u → w.cell? ⟨b, off + j, none⟩ = some u)
    (hK : ∀ v' w', Own E T w' base v' (xs ++ [x]) → w.grownBy w' v.ownBlock → K (a.put o.dst v') w') :
    if Region.wanted o (yielded ops a.tmps) = true then Oper.wp P o a w K Q else F := by
  obtain ⟨it, hi, hz0, hz1, hz2⟩ := info_parts hinfo
  refine step_append_lies w hg s y t hop base T it zv E.sz bytes h1 hi hz0 hz1 hz2 hz E.pos v xs.length _ hs hown ⟨b, off, none⟩ 1 c (E.c x) hy (by rw [E.len, Nat.one_mul]) ?_ (E.one x) (by omega) (by unfold maxLen; omega) ?_ hbase _ rfl ?_
  · intro j u hu
    have hadd : (⟨b, off, none⟩ : Addr).add j = ⟨b, off + j, none⟩ := by unfold Addr.add; split <;> simp_all
    rw [hadd]
    exact hnews j u hu
  · have := Nat.mul_le_mul (show xs.length + 1 ≤ 68719476737 by omega) hby
    omega
  · intro g cap w' h2 h3 _ _
    refine hK _ w' ?_ h3
    unfold Own
    simpa [List.flatMap_append] using h2

def evOf (t i : Nat) (x : Ins) : List Ev := if x.op = 4 then [] else [⟨t, i, x.loc, isRop x.op, isWop x.op⟩]
def evRow (t : Nat) (r : List Ins) (k : Nat) : List Ev := (List.range k).flatMap fun i => match r[i]? with
  | some x => evOf t i x
  | none => []
def evTo (p : List (List Ins)) (j : Nat) : List Ev := (List.range j).flatMap fun t => match p[t]? with
  | some r => evRow t r r.length
  | none => []
def evHead (k : Nat) : List Ev := (List.range k).map fun (l : Nat) => ⟨-1, l, l, false, true⟩
def evAll (p : List (List Ins)) : List Ev := evHead 3 ++ evTo p p.length

theorem evHead_succ (k : Nat) : evHead (k + 1) = evHead k ++ [⟨-1, k, k, false, true⟩] := by simp [evHead, List.range_succ]
theorem evHead_length (k : Nat) : (evHead k).length = k := by simp [evHead]
theorem evRow_succ {t : Nat} {r : List Ins} {k : Nat} {x : Ins} (h : r[k]? = some x) : evRow t r (k + 1) = evRow t r k ++ evOf t k x := by
  unfold evRow
  rw [List.range_succ, List.flatMap_append]
  simp [h]
theorem evTo_succ {p : List (List Ins)} {j : Nat} {r : List Ins} (h : p[j]? = some r) : evTo p (j + 1) = evTo p j ++ evRow j r r.length := by
  unfold evTo
  rw [List.range_succ, List.flatMap_append]
  simp [h]
theorem evOf_length (t i : Nat) (x : Ins) : (evOf t i x).length ≤ 1 := by unfold evOf; split <;> simp
theorem evRow_length (t : Nat) (r : List Ins) : ∀ k, (evRow t r k).length ≤ k := by
  intro k
  induction k with
  | zero => simp [evRow]
  | succ k ih =>
    unfold evRow at ih ⊢
    rw [List.range_succ, List.flatMap_append, List.length_append]
    have : ((List.flatMap (fun i => match r[i]? with
      | some x => evOf t i x
      | none => []) [k])).length ≤ 1 := by
      cases h : r[k]? with
      | none => simp [h]
      | some x => simp [h]; exact evOf_length t k x
    omega
theorem evTo_length (p : List (List Ins)) : ∀ j, j ≤ p.length → (evTo p j).length ≤ (p.take j).flatten.length := by
  intro j
  induction j with
  | zero => intro _; simp [evTo]
  | succ j ih =>
    intro hj
    obtain ⟨r, hr⟩ := get_of_lt (xs := p) (k := j) hj
    rw [evTo_succ hr, List.take_add_one, hr, List.flatten_append, List.length_append, List.length_append]
    have h1 := ih (by omega)
    have h2 := evRow_length j r r.length
    simp only [Option.toList_some, List.flatten_cons, List.flatten_nil, List.append_nil]
    omega
theorem evAll_length (p : List (List Ins)) : (evAll p).length ≤ 3 + p.flatten.length := by
  unfold evAll
  have := evTo_length p p.length (Nat.le_refl _)
  rw [List.take_length] at this
  rw [List.length_append, evHead_length]; omega

end Go.Proofs.YtpbmlppdmdmfkaaGreatDoor

namespace Go.Proofs.YtpbmlppdmdmfkaaGreatDoor

theorem evOf_len (t i : Nat) (x : Ins) : (evOf t i x).length = if notFence x = true then 1 else 0 := by
  unfold evOf notFence
  by_cases h : x.op = 4
  · simp [h]
  · simp [h]
theorem evRow_len (t : Nat) (r : List Ins) : ∀ k, k ≤ r.length → (evRow t r k).length = (r.take k).countP notFence := by
  intro k
  induction k with
  | zero => intro _; simp [evRow]
  | succ k ih =>
    intro hk
    obtain ⟨x, hx⟩ := get_of_lt (xs := r) (k := k) hk
    rw [evRow_succ hx, List.length_append, ih (by omega), countP_take_succ _ hx, evOf_len]
theorem evTo_len (p : List (List Ins)) : ∀ j, j ≤ p.length → (evTo p j).length = cnt notFence (p.take j) := by
  intro j
  induction j with
  | zero => intro _; simp [evTo, cnt]
  | succ j ih =>
    intro hj
    obtain ⟨r, hr⟩ := get_of_lt (xs := p) (k := j) hj
    rw [evTo_succ hr, List.length_append, ih (by omega), cnt_take_succ _ hr, evRow_len j r r.length (Nat.le_refl _), List.take_length]
theorem evAll_le {p : List (List Ins)} (h : progValid p = true) : (evAll p).length ≤ 15 := by
  obtain ⟨-, -, -, h4, -⟩ := valid_le h
  unfold evAll
  rw [List.length_append, evHead_length, evTo_len p p.length (Nat.le_refl _), List.take_length]
  omega

end Go.Proofs.YtpbmlppdmdmfkaaGreatDoor

namespace Go.Proofs.YtpbmlppdmdmfkaaGreatDoor

/-- A candidate. -/
structure Xc where
  fr : List Int
  od : List (List Int)
deriving DecidableEq

def wr1 (l : Int) (i : Nat) (e : Ev) : List Int := if (e.w && e.l == l) = true then [(i : Int)] else []
def wrTo (es : List Ev) (l : Int) (k : Nat) : List Int := (List.range k).flatMap fun i => match es[i]? with
  | some e => wr1 l i e
  | none => []
/-- The events that write a location. -/
def wrL (es : List Ev) (l : Int) : List Int := wrTo es l es.length

theorem wrTo_succ {es : List Ev} (l : Int) {k : Nat} {e : Ev} (h : es[k]? = some e) : wrTo es l (k + 1) = wrTo es l k ++ wr1 l k e := by
  unfold wrTo
  rw [List.range_succ, List.flatMap_append]
  simp [h]
theorem wr1_length (l : Int) (i : Nat) (e : Ev) : (wr1 l i e).length ≤ 1 := by unfold wr1; split <;> simp
theorem wrTo_length (es : List Ev) (l : Int) : ∀ k, k ≤ es.length → (wrTo es l k).length ≤ k := by
  intro k
  induction k with
  | zero => intro _; simp [wrTo]
  | succ k ih =>
    intro hk
    obtain ⟨e, he⟩ := get_of_lt (xs := es) (k := k) hk
    rw [wrTo_succ l he, List.length_append]
    have := ih (by omega)
    have := wr1_length l k e
    omega
theorem wrL_length (es : List Ev) (l : Int) : (wrL es l).length ≤ es.length := wrTo_length es l es.length (Nat.le_refl _)
theorem mem_wrTo {es : List Ev} {l x : Int} : ∀ {k : Nat}, k ≤ es.length → (x ∈ wrTo es l k ↔ ∃ (i : Nat) (e : Ev), i < k ∧ x = i ∧ es[i]? = some e ∧ e.w = true ∧ e.l = l) := by
  intro k
  induction k with
  | zero => intro _; simp [wrTo]
  | succ k ih =>
    intro hk
    obtain ⟨e, he⟩ := get_of_lt (xs := es) (k := k) hk
    rw [wrTo_succ l he, List.mem_append, ih (by omega)]
    constructor
    · rintro (⟨i, e', h1, h2⟩ | h)
      · exact ⟨i, e', by omega, h2⟩
      · unfold wr1 at h
        split at h
        · rename_i hc
          simp at h hc
          exact ⟨k, e, by omega, h, he, hc.1, hc.2⟩
        · simp at h
    · rintro ⟨i, e', h1, h2, h3, h4, h5⟩
      by_cases hi : i = k
      · subst hi
        rw [he] at h3; simp at h3; subst h3
        refine .inr ?_
        unfold wr1
        rw [if_pos (by simp [h4, h5])]
        simp [h2]
      · exact .inl ⟨i, e', by omega, h2, h3, h4, h5⟩
theorem mem_wrL {es : List Ev} {l x : Int} : x ∈ wrL es l ↔ ∃ (i : Nat) (e : Ev), i < es.length ∧ x = i ∧ es[i]? = some e ∧ e.w = true ∧ e.l = l := mem_wrTo (Nat.le_refl _)
theorem wrTo_sorted (es : List Ev) (l : Int) : ∀ k, k ≤ es.length → (wrTo es l k).Pairwise (· < ·) := by
  intro k
  induction k with
  | zero => intro _; simp [wrTo]
  | succ k ih =>
    intro hk
    obtain ⟨e, he⟩ := get_of_lt (xs := es) (k := k) hk
    rw [wrTo_succ l he, List.pairwise_append]
    refine ⟨ih (by omega), ?_, ?_⟩
    · unfold wr1; split <;> simp
    · intro a ha b hb
      obtain ⟨i, e', h1, h2, -⟩ := (mem_wrTo (by omega)).1 ha
      unfold wr1 at hb
      split at hb
      · simp at hb; omega
      · simp at hb
theorem wrL_sorted (es : List Ev) (l : Int) : (wrL es l).Pairwise (· < ·) := wrTo_sorted es l es.length (Nat.le_refl _)
theorem wrL_nodup (es : List Ev) (l : Int) : (wrL es l).Nodup := (wrL_sorted es l).imp (fun h => Int.ne_of_lt h)

def fromOk (es : List Ev) (i : Nat) (e : Ev) (f : Int) : Bool := if e.r = true then (f != (i : Int)) && (wrL es e.l).contains f else f == -1
def fromsOk (es : List Ev) (fr : List Int) (k : Nat) : Bool := (List.range k).all fun i => match es[i]?, fr[i]? with
  | some e, some f => fromOk es i e f
  | _, _ => false
theorem fromsOk_succ {es : List Ev} {fr : List Int} {k : Nat} {e : Ev} {f : Int} (h : es[k]? = some e) (h2 : fr[k]? = some f) : fromsOk es fr (k + 1) = (fromsOk es fr k && fromOk es k e f) := by
  unfold fromsOk
  rw [List.range_succ, List.all_append]
  simp [h, h2]
def orderOk (es : List Ev) (l : Nat) (o : List Int) : Bool := decide (o.Perm (wrL es l)) && (o.head? == some (l : Int))
def ordersOk (es : List Ev) (od : List (List Int)) (k : Nat) : Bool := (List.range k).all fun l => match od[l]? with
  | some o => orderOk es l o
  | none => false
theorem ordersOk_succ {es : List Ev} {od : List (List Int)} {k : Nat} {o : List Int} (h : od[k]? = some o) : ordersOk es od (k + 1) = (ordersOk es od k && orderOk es k o) := by
  unfold ordersOk
  rw [List.range_succ, List.all_append]
  simp [h]
/-- Whether x is a candidate for p. -/
def execOk (p : List (List Ins)) (x : Xc) : Bool :=
  progValid p && (decide (x.fr.length = (evAll p).length) && (decide (x.od.length = 3) && (fromsOk (evAll p) x.fr (evAll p).length && ordersOk (evAll p) x.od 3)))

theorem fromsOk_get {es : List Ev} {fr : List Int} {k i : Nat} (h : fromsOk es fr k = true) (hi : i < k) : ∃ e f, es[i]? = some e ∧ fr[i]? = some f ∧ fromOk es i e f = true := by
  unfold fromsOk at h
  rw [List.all_eq_true] at h
  have := h i (List.mem_range.2 hi)
  split at this
  · rename_i e f he hf
    exact ⟨e, f, he, hf, this⟩
  · cases this
theorem ordersOk_get {es : List Ev} {od : List (List Int)} {k i : Nat} (h : ordersOk es od k = true) (hi : i < k) : ∃ o, od[i]? = some o ∧ orderOk es i o = true := by
  unfold ordersOk at h
  rw [List.all_eq_true] at h
  have := h i (List.mem_range.2 hi)
  split at this
  · rename_i o ho
    exact ⟨o, ho, this⟩
  · cases this

theorem fromsOk_no {es : List Ev} {fr : List Int} {k n : Nat} {e : Ev} {f : Int} (h : es[k]? = some e) (h2 : fr[k]? = some f) (hn : k < n) (hf : fromOk es k e f = false) : fromsOk es fr n = false := by
  unfold fromsOk
  rw [List.all_eq_false]
  exact ⟨k, List.mem_range.2 hn, by simp [h, h2, hf]⟩
theorem ordersOk_no {es : List Ev} {od : List (List Int)} {k n : Nat} {o : List Int} (h : od[k]? = some o) (hn : k < n) (hf : orderOk es k o = false) : ordersOk es od n = false := by
  unfold ordersOk
  rw [List.all_eq_false]
  exact ⟨k, List.mem_range.2 hn, by simp [h, hf]⟩

/-- Of two lists of one length, the one without doubles lies within the other: they have the same elements. -/
theorem perm_of_sub {xs ys : List Int} (hn : xs.Nodup) (hs : ∀ x ∈ xs, x ∈ ys) (hl : ys.length ≤ xs.length) : ys.Perm xs := by
  induction xs generalizing ys with
  | nil => simp at hl; subst hl; exact .nil
  | cons x xs ih =>
    have hx : x ∈ ys := hs x (by simp)
    have hp := List.perm_cons_erase hx
    refine hp.trans (.cons x (ih (List.nodup_cons.1 hn).2 (fun y hy => ?_) ?_))
    · have hne : y ≠ x := fun e => (List.nodup_cons.1 hn).1 (e ▸ hy)
      exact (List.mem_erase_of_ne hne).2 (hs y (by simp [hy]))
    · rw [List.length_erase_of_mem hx]; simp at hl; omega

theorem head_wrL {p : List (List Ins)} {l : Nat} (hl : l < 3) : (wrL (evAll p) l).head? = some (l : Int) := by
  have h3 : ∀ k, 3 ≤ k → k ≤ (evAll p).length → ∃ t, wrTo (evAll p) l k = (l : Int) :: t := by
    intro k
    induction k with
    | zero => intro h; omega
    | succ k ih =>
      intro h hk
      by_cases hk2 : k = 2
      · subst hk2
        have e0 : (evAll p)[0]? = some ⟨-1, 0, 0, false, true⟩ := rfl
        have e1 : (evAll p)[1]? = some ⟨-1, 1, 1, false, true⟩ := rfl
        have e2 : (evAll p)[2]? = some ⟨-1, 2, 2, false, true⟩ := rfl
        rw [wrTo_succ _ e2, wrTo_succ _ e1, wrTo_succ _ e0]
        have : l = 0 ∨ l = 1 ∨ l = 2 := by omega
        rcases this with rfl | rfl | rfl <;> exact ⟨_, rfl⟩
      · obtain ⟨e, he⟩ := get_of_lt (xs := evAll p) (k := k) hk
        obtain ⟨t, ht⟩ := ih (by omega) (by omega)
        rw [wrTo_succ _ he, ht]
        exact ⟨_, rfl⟩
  obtain ⟨t, ht⟩ := h3 (evAll p).length (by unfold evAll; simp [evHead_length]) (Nat.le_refl _)
  unfold wrL
  rw [ht]; rfl

end Go.Proofs.YtpbmlppdmdmfkaaGreatDoor

namespace Go.Proofs.YtpbmlppdmdmfkaaGreatDoor
open Go.RowKit

theorem news_allocV {w : World} {l : List Value} {T : TypeId} {G : Nat} (hG : w.heap.size = G) : ∀ (j : Nat) (u : Value), l[j]? = some u → (w.alloc (.cells l.toArray T)).cell? ⟨G, 0 + j, none⟩ = some u := by
  subst hG; exact news_alloc
theorem below_app2 {α : Type} {E : El α} {T : TypeId} {w wr w1 : World} {o o2 : Obj} {v : Value} {xs : List α} (hb : Below w.heap.size w wr) (hown : Own E T wr w.heap.size v xs) (hg : ((wr.alloc o).alloc o2).grownBy w1 v.ownBlock) : Below w.heap.size w w1 :=
  below_app (hb.alloc hb.size o) (hown.alloc o) hg

set_option maxRecDepth 100000 in
set_option maxHeartbeats 1600000 in
theorem writersOf_any (v : Value) (es : List Ev) (l : Int) (w : World) (hx : Rep EvE w v es) (hl : es.length ≤ 1048676) :
    Calls Tryz.prog 134 #[v, .int .i64 l] w (RetOwn IntE 3 w (wrL es l)) := by
  obtain ⟨a, c, rfl, hc1, hc2, hc3, hx⟩ := hx.open
  have HX := hide hx; clear hx
  have HW : Hid (wrL es l = wrTo es l es.length) := hide rfl
  have HLEN := hide (wrTo_length es l)
  generalize hn : es.length = n at *
  have H := hide hn; clear hn
  go_enter Tryz.func134, Tryz.ntmps134
  go_wp2_with fail
  go_loopw [5, 10] (fun s i wr => ∃ t : Nat, t ≤ n ∧ i = .int .i64 t ∧ OwnN wr w.heap.size s (wrTo es l t) ∧ Below w.heap.size w wr) (fun _ i _ => n - (intOf i).toNat)
  case atStart => exact ⟨0, Nat.zero_le _, rfl, Own.nil _ _ _, Below.refl _ _⟩
  case round =>
    obtain ⟨t, ht, rfl, hown, hb⟩ := hrel
    by_cases hlt : t < n
    · obtain ⟨e, hek⟩ := get_of_lt (xs := es) (k := t) (by rw [H.out]; exact hlt)
      obtain ⟨b, o, rfl, hbl, i0, i1, i2, i3, i4⟩ := (HX.out.below hb).ev hek
      have hlt' := nat_of_lt hlt
      have HS := hide (wrTo_succ l hek)
      have hlen : (wrTo es l t).length ≤ 68719476736 := Nat.le_trans (HLEN.out t (by omega)) (by omega)
      clear hek
      obtain ⟨et, ei, el, er, ew⟩ := e
      simp only at i0 i1 i2 i3 i4
      generalize wrTo es l t = G at *
      cases ew
      · have HS2 : Hid (wrTo es l (t + 1) = G) := hide (by rw [HS.out, wr1]; simp)
        go_wp2_with fail
        go_roundw
        case rel => exact ⟨t + 1, by omega, by go_num, by rw [HS2.out]; exact hown.alloc _, hb.alloc hb.size _⟩
        case measure => simp [intOf]; omega
      · by_cases hel : el = l
        · have HS2 : Hid (wrTo es l (t + 1) = G ++ [(t : Int)]) := hide (by rw [HS.out, wr1, if_pos (by simp [hel])])
          have k1 : (el == l) = true := by simp [hel]
          clear hel
          go_wp2_with (at_builtin; refine wpList_app IntE 3 Tryz.infoInt rfl Tryz.underlying25 w.heap.size _ G (t : Int) ((hown.alloc _).alloc _) (by decide) hlen (by simp; have := hb.size; omega) rfl _ _ rfl rfl _ 0 1 rfl (news_allocV (by simp)) ?_; intro v' w1 hown1 hgr1)
          have hb1 := below_app2 hb hown hgr1
          go_roundw
          case rel => exact ⟨t + 1, by omega, by go_num, by rw [HS2.out]; exact hown1, hb1⟩
          case measure => simp [intOf]; omega
        · have HS2 : Hid (wrTo es l (t + 1) = G) := hide (by rw [HS.out, wr1, if_neg (by simp [hel])]; simp)
          have k1 : (el == l) = false := by simp [hel]
          clear hel
          go_wp2_with fail
          go_roundw
          case rel => exact ⟨t + 1, by omega, by go_num, by rw [HS2.out]; exact hown.alloc _, hb.alloc hb.size _⟩
          case measure => simp [intOf]; omega
    · have e : t = n := by omega
      go_wp2_with fail
      go_ret
      rw [HW.out, ← e]
      exact ⟨_, rfl, hown, hb⟩

set_option maxRecDepth 100000 in
set_option maxHeartbeats 1600000 in
theorem l6Writers_any (v : Value) (es : List Ev) (l : Int) (w : World) (hx : Rep EvE w v es) (hl : es.length ≤ 1048676) :
    Calls Tryz.prog 278 #[v, .int .i64 l] w (RetOwn IntE 3 w (wrL es l)) := by
  obtain ⟨a, c, rfl, hc1, hc2, hc3, hx⟩ := hx.open
  have HX := hide hx; clear hx
  have HW : Hid (wrL es l = wrTo es l es.length) := hide rfl
  have HLEN := hide (wrTo_length es l)
  generalize hn : es.length = n at *
  have H := hide hn; clear hn
  go_enter Tryz.func278, Tryz.ntmps278
  go_wp2_with fail
  go_loopw [5, 6] (fun s i wr => ∃ t : Nat, t ≤ n ∧ i = .int .i64 t ∧ OwnN wr w.heap.size s (wrTo es l t) ∧ Below w.heap.size w wr) (fun _ i _ => n - (intOf i).toNat)
  case atStart => exact ⟨0, Nat.zero_le _, rfl, Own.empty (E := IntE) _ w (Nat.le_refl _), (Below.refl _ _).alloc (Nat.le_refl _) _⟩
  case round =>
    obtain ⟨t, ht, rfl, hown, hb⟩ := hrel
    by_cases hlt : t < n
    · obtain ⟨e, hek⟩ := get_of_lt (xs := es) (k := t) (by rw [H.out]; exact hlt)
      obtain ⟨b, o, rfl, hbl, i0, i1, i2, i3, i4⟩ := (HX.out.below hb).ev hek
      have hlt' := nat_of_lt hlt
      have HS := hide (wrTo_succ l hek)
      have hlen : (wrTo es l t).length ≤ 68719476736 := Nat.le_trans (HLEN.out t (by omega)) (by omega)
      clear hek
      obtain ⟨et, ei, el, er, ew⟩ := e
      simp only at i0 i1 i2 i3 i4
      generalize wrTo es l t = G at *
      cases ew
      · have HS2 : Hid (wrTo es l (t + 1) = G) := hide (by rw [HS.out, wr1]; simp)
        go_wp2_with fail
        go_roundw
        case rel => exact ⟨t + 1, by omega, by go_num, by rw [HS2.out]; exact hown, hb⟩
        case measure => simp [intOf]; omega
      · by_cases hel : el = l
        · have HS2 : Hid (wrTo es l (t + 1) = G ++ [(t : Int)]) := hide (by rw [HS.out, wr1, if_pos (by simp [hel])])
          have k1 : (el == l) = true := by simp [hel]
          clear hel
          go_wp2_with (at_builtin; refine wpList_app IntE 3 Tryz.infoInt rfl Tryz.underlying25 w.heap.size _ G (t : Int) (hown.alloc _) (by decide) hlen (by simp; have := hb.size; omega) rfl _ _ rfl rfl _ 0 1 rfl (news_allocV (by simp)) ?_; intro v' w1 hown1 hgr1)
          have hb1 := below_app hb hown hgr1
          go_roundw
          case rel => exact ⟨t + 1, by omega, by go_num, by rw [HS2.out]; exact hown1, hb1⟩
          case measure => simp [intOf]; omega
        · have HS2 : Hid (wrTo es l (t + 1) = G) := hide (by rw [HS.out, wr1, if_neg (by simp [hel])]; simp)
          have k1 : (el == l) = false := by simp [hel]
          clear hel
          go_wp2_with fail
          go_roundw
          case rel => exact ⟨t + 1, by omega, by go_num, by rw [HS2.out]; exact hown, hb⟩
          case measure => simp [intOf]; omega
    · have e : t = n := by omega
      go_wp2_with fail
      go_ret
      rw [HW.out, ← e]
      exact ⟨_, rfl, hown, hb⟩

/-- The place of a number in a list, or -1. -/
def PlaceOf (xs : List Int) (x q : Int) : Prop := (q = -1 ∧ x ∉ xs) ∨ ∃ k : Nat, q = k ∧ xs[k]? = some x ∧ x ∉ xs.take k
theorem PlaceOf.lt {xs : List Int} {x q : Int} (h : PlaceOf xs x q) : decide (q < 0) = !xs.contains x := by
  rcases h with ⟨rfl, h⟩ | ⟨k, rfl, h, -⟩
  · simp [h]
  · have := List.mem_of_getElem? h
    simp [this]
theorem notin_succ {xs : List Int} {x y : Int} {t : Nat} (h : x ∉ xs.take t) (hy : xs[t]? = some y) (hne : y ≠ x) : x ∉ xs.take (t + 1) := by
  rw [List.take_add_one, hy]
  simp [h, Ne.symm hne]

set_option maxHeartbeats 800000 in
theorem l6Place_any (v : Value) (xs : List Int) (x : Int) (w : World) (hx : Rep IntE w v xs) :
    Calls Tryz.prog 348 #[v, .int .i64 x] w fun e w' => (∃ q : Int, e = .returned (.int .i64 q) ∧ PlaceOf xs x q) ∧ w = w' := by
  obtain ⟨a, c, rfl, hc1, hc2, hc3, hx⟩ := hx.open
  have HX := hide hx; clear hx
  generalize hn : xs.length = n at *
  have H := hide hn; clear hn
  go_enter Tryz.func348, Tryz.ntmps348
  go_wp2_with fail
  go_loop [5] (fun i => ∃ t : Nat, t ≤ n ∧ i = .int .i64 t ∧ Hid (x ∉ xs.take t)) (fun i => n - (intOf i).toNat)
  case atStart => exact ⟨0, Nat.zero_le _, rfl, hide (by simp)⟩
  case round =>
    obtain ⟨t, ht, rfl, hno⟩ := hrel
    by_cases hlt : t < n
    · obtain ⟨y, hy⟩ := get_of_lt (xs := xs) (k := t) (by rw [H.out]; exact hlt)
      obtain ⟨b, o, rfl, hbl, i0⟩ := HX.out.int hy
      have hlt' := nat_of_lt hlt
      have X := hide hy; clear hy
      by_cases hxy : y = x
      · have k1 : (y == x) = true := by simp [hxy]
        have XE := hide hxy
        clear hxy
        go_wp2_with fail
        go_ret
        exact ⟨⟨_, rfl, .inr ⟨t, rfl, XE.out ▸ X.out, hno.out⟩⟩, rfl⟩
      · have k1 : (y == x) = false := by simp [hxy]
        have NO : Hid (x ∉ xs.take (t + 1)) := hide (notin_succ hno.out X.out hxy)
        clear hxy
        go_wp2_with fail
        go_round
        case rel => exact ⟨t + 1, by omega, by go_num, NO⟩
        case measure => simp [intOf]; omega
    · go_wp2_with fail
      go_ret
      refine ⟨⟨_, rfl, .inl ⟨rfl, ?_⟩⟩, rfl⟩
      have h := hno.out
      rwa [List.take_of_length_le (by rw [H.out]; omega)] at h

end Go.Proofs.YtpbmlppdmdmfkaaGreatDoor

namespace Go.Proofs.YtpbmlppdmdmfkaaGreatDoor
open Go.RowKit

/-- The place of the first element of which f says yes, or -1. -/
def IdxOf {α : Type} (f : α → Bool) (xs : List α) (q : Int) : Prop := (q = -1 ∧ ∀ x ∈ xs, f x = false) ∨ ∃ (t : Nat) (x : α), q = t ∧ xs[t]? = some x ∧ f x = true ∧ ∀ y ∈ xs.take t, f y = false

theorem none_succ {α : Type} {f : α → Bool} {xs : List α} {t : Nat} {x : α} (h : ∀ y ∈ xs.take t, f y = false) (hx : xs[t]? = some x) (hf : f x = false) : ∀ y ∈ xs.take (t + 1), f y = false := by
  intro y hy
  rw [List.take_add_one, hx] at hy
  simp at hy
  rcases hy with hy | rfl
  · exact h y hy
  · exact hf

theorem IdxOf.any {α : Type} {f : α → Bool} {xs : List α} {q : Int} (h : IdxOf f xs q) : decide (0 ≤ q) = xs.any f := by
  rcases h with ⟨rfl, h⟩ | ⟨t, x, rfl, hx, hf, -⟩
  · rw [List.any_eq_false.2 (fun x hx => by rw [h x hx]; simp)]; rfl
  · rw [List.any_eq_true.2 ⟨x, List.mem_of_getElem? hx, hf⟩]; simp

end Go.Proofs.YtpbmlppdmdmfkaaGreatDoor

namespace Go.Proofs.YtpbmlppdmdmfkaaGreatDoor
open Go.RowKit

theorem Tryz.infoIntS : (Tryz.prog.info? 25).map (fun i => (i.zero, i.size, i.bytes)) = some (some (.slice none 0 0), 1, 24) := by kernel_rfl

abbrev OwnNN (w : World) (base : Nat) (v : Value) (p : List (List Int)) : Prop := Own2 IntE 25 3 w base v p
abbrev RepNN (w : World) (v : Value) (p : List (List Int)) : Prop := Rep2 IntE w v p

set_option maxHeartbeats 400000 in
theorem EqualN_any (v v' : Value) (xs ys : List Int) (w : World) (hx : Rep IntE w v xs) (hy : Rep IntE w v' ys) :
    Calls Tryz.prog 71 #[v, v'] w fun e w' => e = .returned (.bool (decide (xs = ys))) ∧ Below w.heap.size w w' := by
  obtain ⟨a, c, rfl, hc1, hc2, hc3, hx⟩ := hx.open
  obtain ⟨a', c', rfl, hc1', hc2', hc3', hy⟩ := hy.open
  have HX := hide hx; clear hx
  have HY := hide hy; clear hy
  generalize hn : xs.length = n at *
  generalize hn' : ys.length = n' at *
  have H := hide hn; clear hn
  have H' := hide hn'; clear hn'
  by_cases hc : n = n'
  · subst hc
    have hc' : ((n : Int) != n) = false := by simp
    go_enter Tryz.func71, Tryz.ntmps71
    go_wp2_with fail
    go_loopw [13] (fun v wr => ∃ k : Nat, k ≤ n ∧ v = .int .i64 k ∧ Hid (xs.take k = ys.take k) ∧ Below w.heap.size w wr) (fun v _ => n - (intOf v).toNat)
    case atStart => exact ⟨0, Nat.zero_le _, rfl, hide (by simp), Below.refl _ _⟩
    case round =>
      obtain ⟨k, hk, rfl, T, hb⟩ := hrel
      by_cases hlt : k < n
      · obtain ⟨x, hxk⟩ := get_of_lt (xs := xs) (k := k) (by rw [H.out]; exact hlt)
        obtain ⟨y, hyk⟩ := get_of_lt (xs := ys) (k := k) (by rw [H'.out]; exact hlt)
        obtain ⟨b, o, rfl, hbl, i0⟩ := (HX.out.below hb).int hxk
        obtain ⟨b', o', rfl, hbl', j0⟩ := (HY.out.below hb).int hyk
        have hlt' := nat_of_lt hlt
        have X := hide hxk; clear hxk
        have Y := hide hyk; clear hyk
        by_cases hxy : x = y
        · have T' := hide (take_eq_succ T.out X.out Y.out hxy)
          have hd : (x != y) = false := by simp [hxy]
          clear hxy
          go_wp2_with fail
          refine wp_region_bw (by kernel_rfl) (by kernel_rfl) ?_
          repeat (go_big_quiet_step (fail))
          refine wpQuiet_nil ?_
          intro w1 hb1
          have hb2 := hb.trans (hb1.mono hb.size)
          go_wp2_with fail
          go_roundw
          case rel => exact ⟨k + 1, by omega, by go_num, T', hb2⟩
          case measure => simp [intOf]; omega
        · have hq := ne_of_get X.out Y.out hxy
          have hd : (x != y) = true := by simp [hxy]
          clear hxy
          go_wp2_with fail
          refine wp_region_bw (by kernel_rfl) (by kernel_rfl) ?_
          repeat (go_big_quiet_step (fail))
          refine wpQuiet_nil ?_
          intro w1 hb1
          have hb2 := hb.trans (hb1.mono hb.size)
          go_wp2_with fail
          go_ret
          exact ⟨by simp [hq], hb2⟩
      · have e2 : xs = ys := take_all_eq T.out (by rw [H.out]; omega) (by rw [H'.out]; omega)
        subst e2
        go_wp2_with fail
        go_ret
        exact ⟨by simp, hb⟩
  · have hc' : ((n : Int) != n') = true := by simp; omega
    have hq : xs ≠ ys := fun h => hc (by rw [← H.out, ← H'.out, h])
    go_enter Tryz.func71, Tryz.ntmps71
    go_wp2_with fail
    go_ret
    exact ⟨by simp [hq], Below.refl _ _⟩

set_option maxHeartbeats 400000 in
theorem eqIntSS_any (v v' : Value) (xs ys : List (List Int)) (w : World) (hx : RepNN w v xs) (hy : RepNN w v' ys) :
    Calls Tryz.prog 49 #[v, v'] w fun e w' => e = .returned (.bool (decide (xs = ys))) ∧ Below w.heap.size w w' := by
  obtain ⟨a, c, rfl, hc1, hc2, hc3, hx⟩ := hx.open
  obtain ⟨a', c', rfl, hc1', hc2', hc3', hy⟩ := hy.open
  have HX := hide hx; clear hx
  have HY := hide hy; clear hy
  generalize hn : xs.length = n at *
  generalize hn' : ys.length = n' at *
  have H := hide hn; clear hn
  have H' := hide hn'; clear hn'
  by_cases hc : n = n'
  · subst hc
    have hc' : ((n : Int) != n) = false := by simp
    go_enter Tryz.func49, Tryz.ntmps49
    go_wp2_with fail
    go_loopw [5] (fun v wr => ∃ k : Nat, k ≤ n ∧ v = .int .i64 k ∧ Hid (xs.take k = ys.take k) ∧ Below w.heap.size w wr) (fun v _ => n - (intOf v).toNat)
    case atStart => exact ⟨0, Nat.zero_le _, rfl, hide (by simp), Below.refl _ _⟩
    case round =>
      obtain ⟨k, hk, rfl, T, hb⟩ := hrel
      by_cases hlt : k < n
      · obtain ⟨x, hxk⟩ := get_of_lt (xs := xs) (k := k) (by rw [H.out]; exact hlt)
        obtain ⟨y, hyk⟩ := get_of_lt (xs := ys) (k := k) (by rw [H'.out]; exact hlt)
        obtain ⟨b, o, ra, rc, rfl, hbl, i0, i1⟩ := (HX.out.below hb).row hxk
        obtain ⟨b', o', ra', rc', rfl, hbl', j0, j1⟩ := (HY.out.below hb).row hyk
        have hlt' := nat_of_lt hlt
        have X := hide hxk; clear hxk
        have Y := hide hyk; clear hyk
        have I1 := hide i1; clear i1
        have J1 := hide j1; clear j1
        go_wp2_with fail
        refine wp_region_bw (by kernel_rfl) (by kernel_rfl) ?_
        repeat (go_big_quiet_step ((go_at_call 38; exact Calls.bw (eqIntS_any _ _ x y _ (I1.out.below (BW.prop _)) (J1.out.below (BW.prop _))))))
        refine wpQuiet_nil ?_
        intro w1 hb1
        have hb2 := hb.trans (hb1.mono hb.size)
        generalize hd : decide (x = y) = d
        cases d
        · have hq := ne_of_get X.out Y.out (of_decide_eq_false hd)
          clear hd
          go_wp2_with fail
          go_ret
          exact ⟨by simp [hq], hb2⟩
        · have T' := hide (take_eq_succ T.out X.out Y.out (of_decide_eq_true hd))
          clear hd
          go_wp2_with fail
          go_roundw
          case rel => exact ⟨k + 1, by omega, by go_num, T', hb2⟩
          case measure => simp [intOf]; omega
      · have e2 : xs = ys := take_all_eq T.out (by rw [H.out]; omega) (by rw [H'.out]; omega)
        subst e2
        go_wp2_with fail
        go_ret
        exact ⟨by simp, hb⟩
  · have hc' : ((n : Int) != n') = true := by simp; omega
    have hq : xs ≠ ys := fun h => hc (by rw [← H.out, ← H'.out, h])
    go_enter Tryz.func49, Tryz.ntmps49
    go_wp2_with fail
    go_ret
    exact ⟨by simp [hq], Below.refl _ _⟩

/-- What a list of lists's size leaves, or -1. -/
def szN : List (List Int) → Int → Int
  | [], l => l
  | r :: p, l => if l - r.length < 0 then -1 else szN p (l - r.length)

theorem szN_le (p : List (List Int)) (l : Int) (h : 0 ≤ szN p l) : szN p l ≤ l ∧ ∀ r ∈ p, (r.length : Int) ≤ l := by
  induction p generalizing l with
  | nil => simp [szN]
  | cons r p ih =>
    simp only [szN] at h ⊢
    split at h
    · omega
    · rename_i hl
      rw [if_neg hl]
      obtain ⟨h1, h2⟩ := ih _ h
      refine ⟨by omega, fun q hq => ?_⟩
      rcases List.mem_cons.1 hq with rfl | hq
      · omega
      · have := h2 q hq; omega

def szNN (p : List (List Int)) (l : Int) : Int := if l - p.length < 0 then -1 else szN p (l - p.length)

theorem szN_eq (p : List (List Int)) (l : Int) (h : 0 ≤ szN p l) : szN p l = l - p.flatten.length ∨ p = [] := by
  induction p generalizing l with
  | nil => exact .inr rfl
  | cons r p ih =>
    left
    simp only [szN] at h ⊢
    split at h
    · omega
    · rename_i hl
      rw [if_neg hl]
      rcases ih _ h with h1 | h1
      · rw [h1]; simp; omega
      · subst h1; simp [szN]

theorem szNN_le (p : List (List Int)) (h : ¬ szNN p 1048576 < 0) : p.length ≤ 1048576 ∧ p.flatten.length ≤ 1048576 ∧ ∀ r ∈ p, r.length ≤ 1048576 := by
  unfold szNN at h
  split at h
  · omega
  · rename_i hl
    have h1 := szN_le p _ (Int.not_lt.1 h)
    refine ⟨by omega, ?_, fun r hr => by have := h1.2 r hr; omega⟩
    rcases szN_eq p _ (Int.not_lt.1 h) with h2 | h2
    · rw [h2] at h; omega
    · subst h2; simp


end Go.Proofs.YtpbmlppdmdmfkaaGreatDoor

namespace Go.Proofs.YtpbmlppdmdmfkaaGreatDoor
open Go.RowKit

theorem cell_of_block2 {w w' : World} {b : Nat} (h : w'.heap[b]? = w.heap[b]?) (o : Nat) : w'.cell? ⟨b, o, none⟩ = w.cell? ⟨b, o, none⟩ := by
  unfold World.cell?
  rw [h]

theorem kept_cell {w w' : World} {ob : Obj} {row : Option Nat} (hg : (w.alloc ob).grownBy w' row) {b : Nat} (hb : b < w.heap.size) (hne : ∀ q, row = some q → q ≠ b) (o : Nat) : w'.cell? ⟨b, o, none⟩ = w.cell? ⟨b, o, none⟩ := by
  refine cell_of_block2 ?_ o
  rw [hg.block b (by simp; omega) (fun e => hne b e.symm rfl), heap_alloc_old w ob hb]

set_option maxRecDepth 100000 in
set_option maxHeartbeats 3200000 in
theorem events_any (v : Value) (p : List (List Ins)) (w : World) (hp : RepP w v p) (hl : p.flatten.length ≤ 1048576) :
    Calls Tryz.prog 126 #[v] w (RetOwn EvE 147 w (evAll p)) := by
  obtain ⟨a, c, rfl, hc1, hc2, hc3, hp⟩ := hp.open
  have HP := hide hp; clear hp
  have HL := hide hl; clear hl
  have PP : Hid (evAll p = evHead 3 ++ evTo p p.length) := hide rfl
  have HGL := hide (evTo_length p)
  generalize hn : p.length = n at *
  have H := hide hn; clear hn
  go_enter Tryz.func126, Tryz.ntmps126
  go_wp2_with fail
  go_loopw [3, 9] (fun s i wr => ∃ j : Nat, j ≤ 3 ∧ i = .int .i64 j ∧ OwnE wr w.heap.size s (evHead j) ∧ Below w.heap.size w wr) (fun _ i _ => 3 - (intOf i).toNat)
  case atStart => exact ⟨0, by omega, rfl, Own.nil _ _ _, Below.refl _ _⟩
  case round =>
    obtain ⟨j, hj, rfl, hown, hb⟩ := hrel
    by_cases hlt : j < 3
    · have hlt' : (j : Int) < 3 := by omega
      have HS := hide (evHead_succ j)
      have hlen : (evHead j).length ≤ 68719476736 := by rw [evHead_length]; omega
      generalize evHead j = G at *
      go_wp2_with (at_builtin; refine wpList_app EvE 147 Tryz.infoEvent rfl Tryz.underlying143 w.heap.size _ _ ⟨-1, (j : Int), (j : Int), false, true⟩ (hown.alloc _) (by decide) hlen (by simp; have := hb.size; omega) rfl _ _ rfl rfl wr.heap.size 0 1 rfl news_alloc ?_; intro v' w1 hown1 hgr1)
      have hb1 := below_app hb hown hgr1
      go_roundw
      case rel => exact ⟨j + 1, by omega, by go_num, by rw [HS.out]; exact hown1, hb1⟩
      case measure => simp [intOf]; omega
    · obtain rfl : j = 3 := by omega
      have E3 : Hid (evHead 3 = evHead 3 ++ evTo p 0) := hide (by simp [evTo])
      have H3 : Hid ((evHead 3).length = 3) := hide (evHead_length 3)
      generalize evHead 3 = G3 at *
      go_wp2_with fail
      go_loopw [3, 21] (fun s i wr => ∃ j : Nat, j ≤ n ∧ i = .int .i64 j ∧ OwnE wr w.heap.size s (G3 ++ evTo p j) ∧ Below w.heap.size w wr) (fun _ i _ => n - (intOf i).toNat)
      case atStart => exact ⟨0, by omega, rfl, by rw [← E3.out]; exact hown, hb⟩
      case round =>
        obtain ⟨j, hj, rfl, hown, hb2⟩ := hrel
        by_cases hlt2 : j < n
        · obtain ⟨x, hxk⟩ := get_of_lt (xs := p) (k := j) (by rw [H.out]; exact hlt2)
          obtain ⟨b, o, ra, rc, rfl, hbl0, i00, i1⟩ := HP.out.row hxk
          have i0 := (hb2.cell (p := ⟨b, o + j, none⟩) hbl0).trans i00
          have hbl : b < wr.heap.size := by have := hb2.size; omega
          have I1 := hide i1
          have hlt2' := nat_of_lt hlt2
          have GS := hide (evTo_succ hxk)
          have hgl : (evTo p j).length ≤ 1048576 := Nat.le_trans (HGL.out j (by omega)) (Nat.le_trans (flatten_take_le p j) HL.out)
          have hxl := Nat.le_trans (row_le_flatten hxk) HL.out
          clear hxk i1 i00
          generalize hG : evTo p j = G at *
          clear hG
          have HO := hide hown; clear hown
          go_wp2_with fail
          go_loopw [3, 28] (fun s i wr => ∃ t : Nat, t ≤ x.length ∧ i = .int .i64 t ∧ OwnE wr w.heap.size s (G3 ++ (G ++ evRow j x t)) ∧ Below w.heap.size w wr) (fun _ i _ => x.length - (intOf i).toNat)
          case atStart => exact ⟨0, by omega, rfl, by simpa [evRow] using HO.out, hb2⟩
          case round =>
            obtain ⟨t, ht, rfl, hown, hb3⟩ := hrel
            by_cases hlt3 : t < x.length
            · obtain ⟨y, hy⟩ := get_of_lt (xs := x) (k := t) hlt3
              obtain ⟨d1, e1, rfl, hd1, q0, q1, q2, q3⟩ := (I1.out.below hb3).ins hy
              have hlt3' := nat_of_lt hlt3
              have RS := hide (evRow_succ (t := j) hy)
              have hrl := evRow_length j x t
              have Y := hide hy; clear hy
              by_cases hop : y.op = 4
              · have k1 : (y.op != 4) = false := by simp [hop]
                have RS2 : Hid (evRow j x (t + 1) = evRow j x t) := hide (by rw [RS.out, evOf, if_pos hop, List.append_nil])
                clear hop
                go_wp2_with fail
                go_roundw
                case rel => exact ⟨t + 1, by omega, by go_num, by rw [RS2.out]; exact hown.alloc _, hb3.alloc hb3.size _⟩
                case measure => simp [intOf]; omega
              · have k1 : (y.op != 4) = true := by simp [hop]
                have RS2 : Hid (evRow j x (t + 1) = evRow j x t ++ [⟨j, t, y.loc, isRop y.op, isWop y.op⟩]) := hide (by rw [RS.out, evOf, if_neg hop])
                have hlen : (G3 ++ (G ++ evRow j x t)).length ≤ 68719476736 := by rw [List.length_append, List.length_append, H3.out]; omega
                clear hop hrl
                generalize evRow j x t = RG at *
                have HO3 := hide (hown.alloc (.cells #[.int .i64 y.op, .int .i64 y.loc, .int .i64 y.reg, .int .i64 y.val] 84))
                have HB3 := hide (hb3.alloc hb3.size (.cells #[.int .i64 y.op, .int .i64 y.loc, .int .i64 y.reg, .int .i64 y.val] 84))
                have HRd := hide (fun w' => reads_raw y.op y.loc y.reg y.val w')
                have HWr := hide (fun w' => writes_raw y.op y.loc y.reg y.val w')
                generalize isRop y.op = rb at *
                generalize isWop y.op = wb at *
                have HOW := hide hown
                clear hown
                go_wp2_with fail
                go_region_held3 (fun V => V.cell? ⟨wr.heap.size, 0, none⟩ = some (.int .i64 y.op) ∧ V.cell? ⟨wr.heap.size, 1, none⟩ = some (.int .i64 y.loc) ∧ V.cell? ⟨wr.heap.size, 2, none⟩ = some (.int .i64 y.reg) ∧ V.cell? ⟨wr.heap.size, 3, none⟩ = some (.int .i64 y.val)) ((simp [go_sem, *]))
                  (first
                    | (go_at_call 150; (with_reducible refine (HRd.out _).mono ?_); rintro e u1 ⟨rfl, hb4⟩; have hb5 := hide (HB3.out.drew.trans (hb4.mono HB3.out.drew.size)); have hO5 := hide ((HO3.out.below (Below.refl _ _).drew).below hb4); obtain ⟨hc4, hf4⟩ := bcell hb4)
                    | (go_at_call 151; (with_reducible refine (HWr.out _).mono ?_); rintro e u2 ⟨rfl, hb6⟩; have hb7 := hide (hb5.out.trans (hb6.mono hb5.out.size)); have hO7 := hide (hO5.out.below hb6); obtain ⟨hc6, hf6⟩ := bcell (hb4.trans (hb6.mono hb4.size)); have hz6 : wr.heap.size < u2.heap.size := (by have h1 := hb4.size; have h2 := hb6.size; simp at h1; omega))
                    | (refine step_app EvE 147 Tryz.infoEvent rfl Tryz.underlying143 w.heap.size _ _ ⟨(j : Int), (t : Int), y.loc, rb, wb⟩ (hO7.out.alloc _) (by decide) hlen (by have := hb7.out.size; simp; omega) (by rfl) _ _ (by rfl) (by rfl) u2.heap.size 0 1 (by rfl) news_alloc ?_; intro v' w6 hown6 hgr6; have hk6 : (∀ o, w6.cell? ⟨wr.heap.size, o, none⟩ = u2.cell? ⟨wr.heap.size, o, none⟩) := (kept_cell hgr6 hz6 (fun q hq => by have := (World.ownsRow.lt HOW.out q hq).2; omega))))
                have hb8 := below_app hb7.out hO7.out hgr6
                go_wp2_with fail
                go_roundw
                case rel =>
                  have hown7 : OwnE w6 w.heap.size v' (G3 ++ (G ++ evRow j x (t + 1))) := by rw [RS2.out]; simpa [List.append_assoc] using hown6
                  repeat apply Exists.intro
                  exact ⟨⟨t + 1, by omega, by go_num, hown7, hb8⟩, rfl⟩
                case measure => simp [intOf]; omega
            · have e : t = x.length := by omega
              rw [e] at hown
              go_wp2_with fail
              go_roundw
              case rel => exact ⟨j + 1, by omega, by go_num, by rw [GS.out]; exact hown, hb3⟩
              case measure => simp [intOf]; omega
        · have e : j = n := by omega
          go_wp2_with fail
          go_ret
          rw [PP.out, ← e]
          exact ⟨_, rfl, hown, hb2⟩

end Go.Proofs.YtpbmlppdmdmfkaaGreatDoor

namespace Go.Proofs.YtpbmlppdmdmfkaaGreatDoor
open Go.RowKit

set_option maxRecDepth 100000 in
set_option maxHeartbeats 3200000 in
theorem l6Events_any (v : Value) (p : List (List Ins)) (w : World) (hp : RepP w v p) (hl : p.flatten.length ≤ 1048576) :
    Calls Tryz.prog 178 #[v] w (RetOwn EvE 147 w (evAll p)) := by
  obtain ⟨a, c, rfl, hc1, hc2, hc3, hp⟩ := hp.open
  have HP := hide hp; clear hp
  have HL := hide hl; clear hl
  have PP : Hid (evAll p = evHead 3 ++ evTo p p.length) := hide rfl
  have HGL := hide (evTo_length p)
  generalize hn : p.length = n at *
  have H := hide hn; clear hn
  go_enter Tryz.func178, Tryz.ntmps178
  go_wp2_with fail
  go_loopw [3, 4] (fun s i wr => ∃ j : Nat, j ≤ 3 ∧ i = .int .i64 j ∧ OwnE wr w.heap.size s (evHead j) ∧ Below w.heap.size w wr) (fun _ i _ => 3 - (intOf i).toNat)
  case atStart => exact ⟨0, by omega, rfl, Own.empty (E := EvE) _ w (Nat.le_refl _), (Below.refl _ _).alloc (Nat.le_refl _) _⟩
  case round =>
    obtain ⟨j, hj, rfl, hown, hb⟩ := hrel
    by_cases hlt : j < 3
    · have hlt' : (j : Int) ≤ 2 := by omega
      have HS := hide (evHead_succ j)
      have hlen : (evHead j).length ≤ 68719476736 := by rw [evHead_length]; omega
      generalize evHead j = G at *
      go_wp2_with (at_builtin; refine wpList_app EvE 147 Tryz.infoEvent rfl Tryz.underlying143 w.heap.size _ _ ⟨-1, (j : Int), (j : Int), false, true⟩ (hown.alloc _) (by decide) hlen (by simp; have := hb.size; omega) rfl _ _ rfl rfl wr.heap.size 0 1 rfl news_alloc ?_; intro v' w1 hown1 hgr1)
      have hb1 := below_app hb hown hgr1
      go_roundw
      case rel => exact ⟨j + 1, by omega, by go_num, by rw [HS.out]; exact hown1, hb1⟩
      case measure => simp [intOf]; omega
    · obtain rfl : j = 3 := by omega
      have E3 : Hid (evHead 3 = evHead 3 ++ evTo p 0) := hide (by simp [evTo])
      have H3 : Hid ((evHead 3).length = 3) := hide (evHead_length 3)
      generalize evHead 3 = G3 at *
      go_wp2_with fail
      go_loopw [3, 5] (fun s i wr => ∃ j : Nat, j ≤ n ∧ i = .int .i64 j ∧ OwnE wr w.heap.size s (G3 ++ evTo p j) ∧ Below w.heap.size w wr) (fun _ i _ => n - (intOf i).toNat)
      case atStart => exact ⟨0, by omega, rfl, by rw [← E3.out]; exact hown, hb⟩
      case round =>
        obtain ⟨j, hj, rfl, hown, hb2⟩ := hrel
        by_cases hlt2 : j < n
        · obtain ⟨x, hxk⟩ := get_of_lt (xs := p) (k := j) (by rw [H.out]; exact hlt2)
          obtain ⟨b, o, ra, rc, rfl, hbl0, i00, i1⟩ := HP.out.row hxk
          have i0 := (hb2.cell (p := ⟨b, o + j, none⟩) hbl0).trans i00
          have hbl : b < wr.heap.size := by have := hb2.size; omega
          have I1 := hide i1
          have hlt2' := nat_of_lt hlt2
          have GS := hide (evTo_succ hxk)
          have hgl : (evTo p j).length ≤ 1048576 := Nat.le_trans (HGL.out j (by omega)) (Nat.le_trans (flatten_take_le p j) HL.out)
          have hxl := Nat.le_trans (row_le_flatten hxk) HL.out
          have I00 := hide i00
          clear hxk i1 i00
          generalize hG : evTo p j = G at *
          clear hG
          have HO := hide hown; clear hown
          go_wp2_with fail
          go_loopw [3, 6] (fun s i wr => ∃ t : Nat, t ≤ x.length ∧ i = .int .i64 t ∧ OwnE wr w.heap.size s (G3 ++ (G ++ evRow j x t)) ∧ Below w.heap.size w wr) (fun _ i _ => x.length - (intOf i).toNat)
          case atStart => exact ⟨0, by omega, rfl, by simpa [evRow] using HO.out, hb2⟩
          case round =>
            obtain ⟨t, ht, rfl, hown, hb3⟩ := hrel
            have i0 := (hb3.cell (p := ⟨b, o + j, none⟩) hbl0).trans I00.out
            have hbl : b < wr.heap.size := by have := hb3.size; omega
            by_cases hlt3 : t < x.length
            · obtain ⟨y, hy⟩ := get_of_lt (xs := x) (k := t) hlt3
              obtain ⟨d1, e1, rfl, hd1, q0, q1, q2, q3⟩ := (I1.out.below hb3).ins hy
              have hlt3' := nat_of_lt hlt3
              have RS := hide (evRow_succ (t := j) hy)
              have hrl := evRow_length j x t
              have Y := hide hy; clear hy
              by_cases hop : y.op = 4
              · have k1 : (y.op != 4) = false := by simp [hop]
                have RS2 : Hid (evRow j x (t + 1) = evRow j x t) := hide (by rw [RS.out, evOf, if_pos hop, List.append_nil])
                clear hop
                go_wp2_with fail
                go_roundw
                case rel => exact ⟨t + 1, by omega, by go_num, by rw [RS2.out]; exact hown.alloc _, hb3.alloc hb3.size _⟩
                case measure => simp [intOf]; omega
              · have k1 : (y.op != 4) = true := by simp [hop]
                have RS2 : Hid (evRow j x (t + 1) = evRow j x t ++ [⟨j, t, y.loc, isRop y.op, isWop y.op⟩]) := hide (by rw [RS.out, evOf, if_neg hop])
                have hlen : (G3 ++ (G ++ evRow j x t)).length ≤ 68719476736 := by rw [List.length_append, List.length_append, H3.out]; omega
                clear hop hrl
                generalize evRow j x t = RG at *
                have HO3 := hide (hown.alloc (.cells #[.int .i64 y.op, .int .i64 y.loc, .int .i64 y.reg, .int .i64 y.val] 84))
                have HB3 := hide (hb3.alloc hb3.size (.cells #[.int .i64 y.op, .int .i64 y.loc, .int .i64 y.reg, .int .i64 y.val] 84))
                have HRd := hide (fun w' => l1Reads_raw y.op y.loc y.reg y.val w')
                have HWr := hide (fun w' => l1Writes_raw y.op y.loc y.reg y.val w')
                generalize isRop y.op = rb at *
                generalize isWop y.op = wb at *
                have HOW := hide hown
                clear hown
                go_wp2_with fail
                go_region_held3 (fun V => V.cell? ⟨wr.heap.size, 0, none⟩ = some (.int .i64 y.op) ∧ V.cell? ⟨wr.heap.size, 1, none⟩ = some (.int .i64 y.loc) ∧ V.cell? ⟨wr.heap.size, 2, none⟩ = some (.int .i64 y.reg) ∧ V.cell? ⟨wr.heap.size, 3, none⟩ = some (.int .i64 y.val)) ((simp [go_sem, *]))
                  (first
                    | (go_at_call 240; (with_reducible refine (HRd.out _).mono ?_); rintro e u1 ⟨rfl, hb4⟩; have hb5 := hide (HB3.out.drew.trans (hb4.mono HB3.out.drew.size)); have hO5 := hide ((HO3.out.below (Below.refl _ _).drew).below hb4); obtain ⟨hc4, hf4⟩ := bcell hb4)
                    | (go_at_call 241; (with_reducible refine (HWr.out _).mono ?_); rintro e u2 ⟨rfl, hb6⟩; have hb7 := hide (hb5.out.trans (hb6.mono hb5.out.size)); have hO7 := hide (hO5.out.below hb6); obtain ⟨hc6, hf6⟩ := bcell (hb4.trans (hb6.mono hb4.size)); have hz6 : wr.heap.size < u2.heap.size := (by have h1 := hb4.size; have h2 := hb6.size; simp at h1; omega))
                    | (refine step_app EvE 147 Tryz.infoEvent rfl Tryz.underlying143 w.heap.size _ _ ⟨(j : Int), (t : Int), y.loc, rb, wb⟩ (hO7.out.alloc _) (by decide) hlen (by have := hb7.out.size; simp; omega) (by rfl) _ _ (by rfl) (by rfl) u2.heap.size 0 1 (by rfl) news_alloc ?_; intro v' w6 hown6 hgr6; have hk6 : (∀ o, w6.cell? ⟨wr.heap.size, o, none⟩ = u2.cell? ⟨wr.heap.size, o, none⟩) := (kept_cell hgr6 hz6 (fun q hq => by have := (World.ownsRow.lt HOW.out q hq).2; omega))))
                have hb8 := below_app hb7.out hO7.out hgr6
                go_wp2_with fail
                go_roundw
                case rel =>
                  have hown7 : OwnE w6 w.heap.size v' (G3 ++ (G ++ evRow j x (t + 1))) := by rw [RS2.out]; simpa [List.append_assoc] using hown6
                  repeat apply Exists.intro
                  exact ⟨⟨t + 1, by omega, by go_num, hown7, hb8⟩, rfl⟩
                case measure => simp [intOf]; omega
            · have e : t = x.length := by omega
              rw [e] at hown
              go_wp2_with fail
              go_roundw
              case rel => exact ⟨j + 1, by omega, by go_num, by rw [GS.out]; exact hown, hb3⟩
              case measure => simp [intOf]; omega
        · have e : j = n := by omega
          go_wp2_with fail
          go_ret
          rw [PP.out, ← e]
          exact ⟨_, rfl, hown, hb2⟩

end Go.Proofs.YtpbmlppdmdmfkaaGreatDoor

namespace Go.Proofs.YtpbmlppdmdmfkaaGreatDoor
open Go.RowKit

/-- What a candidate is in memory. -/
structure RepX (w : World) (vf vo : Value) (x : Xc) : Prop where
  fr : Rep IntE w vf x.fr
  od : RepNN w vo x.od
theorem RepX.below {w w' : World} {vf vo : Value} {x : Xc} (h : RepX w vf vo x) (hb : Below w.heap.size w w') : RepX w' vf vo x := ⟨h.fr.below hb, h.od.below hb⟩

def orderS (xs ws : List Int) : Bool := decide (xs.length = ws.length) && ((xs.head? == ws.head?) && ws.all fun y => xs.contains y)
theorem all_succ {f : Int → Bool} {ys : List Int} {t : Nat} {y : Int} (h : ∀ z ∈ ys.take t, f z = true) (hy : ys[t]? = some y) (hf : f y = true) : ∀ z ∈ ys.take (t + 1), f z = true := by
  intro z hz
  rw [List.take_add_one, hy] at hz
  simp at hz
  rcases hz with hz | rfl
  · exact h z hz
  · exact hf

theorem orderS_eq {p : List (List Ins)} {l : Nat} (hl : l < 3) (o : List Int) : orderS o (wrL (evAll p) l) = orderOk (evAll p) l o := by
  unfold orderS orderOk
  rw [head_wrL hl, Bool.eq_iff_iff]
  simp only [Bool.and_eq_true, decide_eq_true_eq, List.all_eq_true, List.contains_iff_mem]
  constructor
  · rintro ⟨h1, h2, h3⟩
    exact ⟨perm_of_sub (wrL_nodup _ _) h3 (by omega), h2⟩
  · rintro ⟨h1, h2⟩
    exact ⟨h1.length_eq, h2, fun y hy => h1.symm.mem_iff.1 hy⟩
theorem wrL_pos {p : List (List Ins)} {l : Nat} (hl : l < 3) : 0 < (wrL (evAll p) l).length := by
  have := head_wrL (p := p) hl
  cases h : wrL (evAll p) l with
  | nil => rw [h] at this; cases this
  | cons x xs => simp

end Go.Proofs.YtpbmlppdmdmfkaaGreatDoor

namespace Go.Proofs.YtpbmlppdmdmfkaaGreatDoor
open Go.RowKit

set_option maxHeartbeats 800000 in
theorem IndexN_any (v : Value) (xs : List Int) (x : Int) (w : World) (hx : Rep IntE w v xs) :
    Calls Tryz.prog 222 #[v, .int .i64 x] w fun e w' => (∃ q : Int, e = .returned (.int .i64 q) ∧ PlaceOf xs x q) ∧ w = w' := by
  obtain ⟨a, c, rfl, hc1, hc2, hc3, hx⟩ := hx.open
  have HX := hide hx; clear hx
  generalize hn : xs.length = n at *
  have H := hide hn; clear hn
  go_enter Tryz.func222, Tryz.ntmps222
  go_wp2_with fail
  go_loop [8] (fun i => ∃ t : Nat, t ≤ n ∧ i = .int .i64 t ∧ Hid (x ∉ xs.take t)) (fun i => n - (intOf i).toNat)
  case atStart => exact ⟨0, Nat.zero_le _, rfl, hide (by simp)⟩
  case round =>
    obtain ⟨t, ht, rfl, hno⟩ := hrel
    by_cases hlt : t < n
    · obtain ⟨y, hy⟩ := get_of_lt (xs := xs) (k := t) (by rw [H.out]; exact hlt)
      obtain ⟨b, o, rfl, hbl, i0⟩ := HX.out.int hy
      have hlt' := nat_of_lt hlt
      have X := hide hy; clear hy
      by_cases hxy : y = x
      · have k1 : (x == y) = true := by simp [hxy]
        have XE := hide hxy
        clear hxy
        go_wp2_with fail
        go_ret
        exact ⟨⟨_, rfl, .inr ⟨t, rfl, XE.out ▸ X.out, hno.out⟩⟩, rfl⟩
      · have k1 : (x == y) = false := by simpa using fun e => hxy e.symm
        have NO : Hid (x ∉ xs.take (t + 1)) := hide (notin_succ hno.out X.out hxy)
        clear hxy
        go_wp2_with fail
        go_round
        case rel => exact ⟨t + 1, by omega, by go_num, NO⟩
        case measure => simp [intOf]; omega
    · go_wp2_with fail
      go_ret
      refine ⟨⟨_, rfl, .inl ⟨rfl, ?_⟩⟩, rfl⟩
      have h := hno.out
      rwa [List.take_of_length_le (by rw [H.out]; omega)] at h

theorem PlaceOf.ge {xs : List Int} {x q : Int} (h : PlaceOf xs x q) : decide (0 ≤ q) = xs.contains x := by
  rcases h with ⟨rfl, h⟩ | ⟨k, rfl, h, -⟩
  · simp [h]
  · have := List.mem_of_getElem? h
    simp [this]

theorem ContainsN_any (v : Value) (xs : List Int) (x : Int) (w : World) (hx : Rep IntE w v xs) :
    Calls Tryz.prog 160 #[v, .int .i64 x] w fun e w' => e = .returned (.bool (xs.contains x)) ∧ w = w' := by
  have HI := hide (IndexN_any v xs x w hx)
  obtain ⟨a, c, rfl, -⟩ := hx.open
  clear hx
  generalize hb : xs.contains x = b
  have HB := hide hb; clear hb
  go_enter Tryz.func160, Tryz.ntmps160
  go_wp2_with fail
  (with_reducible refine HI.out.mono ?_); rintro e w1 ⟨⟨q, rfl, hq⟩, rfl⟩
  have E : Hid (decide (0 ≤ q) = b) := hide (by rw [← HB.out]; exact hq.ge)
  clear hq
  go_wp2_with fail
  go_ret
  exact ⟨by rw [← E.out]; rfl, rfl⟩

theorem CloneV_any (v : Value) (xs : List Int) (w : World) (hx : Rep IntE w v xs) (hl : xs.length ≤ 1048576) :
    Calls Tryz.prog 161 #[v] w (RetOwn IntE 3 w xs) := by
  obtain ⟨a, c, rfl, hc1, hc2, hc3, hx⟩ := hx.open
  have HX := hide hx; clear hx
  generalize hn : xs.length = n at *
  have H := hide hn; clear hn
  have hlen : ([] : List Int).length + n ≤ 68719476736 := by simp; omega
  cases a with
  | none =>
    have hE := fun w' : World => eql_slice_nil Tryz.prog w' 25 3 none n c 0 0 Tryz.underlying25
    have hn0 : xs = [] := by
      cases xs with
      | nil => rfl
      | cons x xs => obtain ⟨b, o, he, _⟩ := HX.out.int (k := 0) (x := x) rfl; cases he
    subst hn0
    go_enter Tryz.func161, Tryz.ntmps161
    go_wp2_with fail
    go_ret
    exact ⟨_, rfl, Own.nil _ _ _, Below.refl _ _⟩
  | some ad =>
    have hE := fun w' : World => eql_slice_nil Tryz.prog w' 25 3 (some ad) n c 0 0 Tryz.underlying25
    go_enter Tryz.func161, Tryz.ntmps161
    go_wp2_with (at_builtin; refine wpList_appS IntE 3 Tryz.infoInt rfl Tryz.underlying25 w.heap.size _ [] xs _ (Own.empty _ w (Nat.le_refl _)) (HX.out.below ((Below.refl _ _).alloc (Nat.le_refl _) _)) (by decide) (by rw [H.out]; exact hlen) (by simp) rfl _ _ rfl rfl rfl ?_; intro v' w1 hown1 hgr1)
    go_ret
    exact ⟨_, rfl, by simpa using hown1, ((Below.refl _ _).alloc (Nat.le_refl _) _).grown hgr1 (by simp) (fun k hk => by simp [Value.ownBlock] at hk; omega)⟩

end Go.Proofs.YtpbmlppdmdmfkaaGreatDoor
