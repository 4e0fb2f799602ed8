/-
  All orders of numbers, in the program. Condition: bounds on lengths.
-/
import Derived.Test.YtblheabgjjeigaaZv03
import Derived.Test.YtblheabgjjeigaaZv01
import Derived.Test.YtblheabgjjeigaaZv00
import Derived.Test.YtblheabgjjeigaaZv07
import Derived.Shelf.Slices.Delete
import Derived.Ground.Names2Prog
import Derived.Test.YtblheabgjjeigaaProg
import Derived.Lib.OwnBridge
import Derived.Test.YtblheabgjjeigaaZv08
import Derived.Test.YtblheabgjjeigaaZv06
import Derived.Deep.AppendLies
namespace Go.Proofs.Ytblheabgjjeigaa
open Go.RowKit

/-- The first k done by f. -/
def mapPre {α : Type} (f : α → α) (k : Nat) (xs : List α) : List α := (xs.take k).map f ++ xs.drop k

section
variable {α : Type} {f : α → α} {k : Nat} {xs : List α}
theorem mapPre_zero : mapPre f 0 xs = xs := by simp [mapPre]
theorem mapPre_all (h : xs.length ≤ k) : mapPre f k xs = xs.map f := by simp [mapPre, List.take_of_length_le h, List.drop_of_length_le h]
theorem mapPre_length : (mapPre f k xs).length = xs.length := by simp [mapPre]; omega
theorem mapPre_get {x : α} (h : xs[k]? = some x) : (mapPre f k xs)[k]? = some x := by
  have hk := (List.getElem?_eq_some_iff.1 h).1
  unfold mapPre
  rw [List.getElem?_append_right (by simp; omega), List.getElem?_drop]
  simp only [List.length_map, List.length_take]
  rw [Nat.min_eq_left (by omega), Nat.sub_self, Nat.add_zero, h]
theorem mapPre_set {x : α} (h : xs[k]? = some x) : (mapPre f k xs).set k (f x) = mapPre f (k + 1) xs := by
  have hk := (List.getElem?_eq_some_iff.1 h).1
  unfold mapPre
  rw [List.set_append_right _ _ (by simp; omega), List.drop_eq_getElem_cons hk]
  simp only [List.length_map, List.length_take]
  rw [Nat.min_eq_left (by omega), Nat.sub_self, List.set_cons_zero, List.take_add_one, h]
  simp
theorem mapPre_same {x : α} (h : xs[k]? = some x) (hf : f x = x) : mapPre f (k + 1) xs = mapPre f k xs := by
  rw [← mapPre_set h, hf]
  have hg := mapPre_get (f := f) h
  apply List.ext_getElem?
  intro i
  rw [List.getElem?_set]
  by_cases e : k = i
  · subst e; rw [if_pos rfl, if_pos (by rw [mapPre_length]; exact (List.getElem?_eq_some_iff.1 h).1), hg]
  · rw [if_neg e]
end

def swapI (reg : Int) (x : Ins) : Ins := if x.op = 2 then ⟨5, x.loc, reg, x.val⟩ else x
def swapP (reg : Int) (p : List (List Ins)) : List (List Ins) := p.map fun r => r.map (swapI reg)
def swapOk (p : List (List Ins)) (reg : Int) : Bool := progValid p && inB reg 0 2 && progValid (swapP reg p)
def swapV (p : List (List Ins)) (reg : Int) : List (List Ins) := if swapOk p reg = true then swapP reg p else []

theorem grown_alloc {w w' : World} {row : Option Nat} (h : w.grownBy w' row) (o : Obj) : w.grownBy (w'.alloc o) row :=
  ⟨h.os, h.tape, h.output, by have := h.size; simp; omega, fun q hq hne => (heap_alloc_old w' o (by have := h.size; omega)).trans (h.block q hq hne)⟩

/-- What a function that makes a program, or none, hands back. -/
def RetOwn2B {α : Type} (E : El α) (T1 T2 : TypeId) (w : World) (p : List (List α)) (b : Bool) (e : Ending) (w' : World) : Prop := ∃ v, e = .returned (.tuple #[v, .bool b]) ∧ Own2 E T1 T2 w' w.heap.size v p ∧ Below w.heap.size w w'

theorem swapP_lengths (reg : Int) (p : List (List Ins)) : (swapP reg p).flatten.length = p.flatten.length := by
  unfold swapP
  induction p with
  | nil => rfl
  | cons r p ih => simp at ih ⊢; omega

theorem row_of_valid {p : List (List Ins)} (h : progValid p = true) : ∀ r ∈ p, r.length ≤ 1048576 := fun r hr => by
  have := ((valid_le h).2.2.1 r hr).1; omega

end Go.Proofs.Ytblheabgjjeigaa

namespace Go.Proofs.Ytblheabgjjeigaa
open Go.RowKit

theorem zeroCells_eq {α : Type} (E : El α) (z : α) (zv : Value) (hz : zv.cells.toList = E.c z) (n : Nat) : (Builtin.zeroCells zv.cells n).toList = (List.replicate n z).flatMap E.c := by
  have h := made_eq (E := E) z zv hz n
  have hsz : zv.cells.size = E.sz := by rw [← Array.length_toList, hz, E.len]
  rw [← h]
  simp [Builtin.zeroCells, madeCells, hsz]

theorem El.take {α : Type} (E : El α) (xs : List α) (i : Nat) : (xs.flatMap E.c).take (i * E.sz) = (xs.take i).flatMap E.c := by
  induction xs generalizing i with
  | nil => simp
  | cons x xs ih =>
    cases i with
    | zero => simp
    | succ i =>
      rw [List.flatMap_cons, List.take_succ_cons, List.flatMap_cons, List.take_append, E.len, List.take_of_length_le (by rw [E.len, Nat.add_mul]; omega),
        show (i + 1) * E.sz - E.sz = i * E.sz by rw [Nat.add_mul]; omega, ih]

section
variable {α : Type} {E : El α} {T : TypeId}

/-- 's[:i]'. -/
theorem Own.cut {w : World} {base g n cap : Nat} {xs : List α} (h : Own E T w base (.slice (some ⟨g, 0, none⟩) n cap) xs) {i : Nat} (hi : i ≤ n) : Own E T w base (.slice (some ⟨g, 0, none⟩) i cap) (xs.take i) := by
  have hn := h.len
  subst hn
  unfold Own at *
  have hl : (xs.take i).length = i := by rw [List.length_take]; omega
  rcases h.2 with ⟨h1, _⟩ | ⟨g', cap', cur, h1, h2, h3, h4, h5, h6, h7⟩
  · simp at h1
  · simp only [Value.slice.injEq, Option.some.injEq, Addr.mk.injEq, and_true, true_and] at h1
    obtain ⟨rfl, rfl⟩ := h1
    rw [hl]
    refine ⟨by rw [E.length, hl], .inr ⟨g, cap, cur, rfl, h2, h3, by omega, h5, h6, ?_⟩⟩
    rw [← E.take, ← h7, List.take_take, Nat.min_eq_left (Nat.mul_le_mul_right _ hi)]

/-- 'clear(s[i:])'. -/
theorem run_clear {P : Program} {w : World} {base g n cap i c' : Nat} {xs : List α} (z : α) {zv : Value} {bytes : Nat} (hinfo : (P.info? T).map (fun i => (i.zero, i.size, i.bytes)) = some (some zv, E.sz, bytes)) (hz : zv.cells.toList = E.c z)
    {t ty : TypeId} (h1 : P.underlying t = some (.slice T)) (hown : Own E T w base (.slice (some ⟨g, 0, none⟩) n cap) xs) (hi : i < n) :
    ∃ w', (Builtin.clear_ #[t] ty #[.slice (some ⟨g, i * E.sz, none⟩) (n - i) c']).run P w = .ok (.tuple #[]) w' ∧ Own E T w' base (.slice (some ⟨g, 0, none⟩) n cap) (xs.take i ++ List.replicate (n - i) z) ∧ w.grownBy w' (some g) := by
  have hn := hown.len
  subst hn
  obtain ⟨it, hi1, hz0, hz1, hz2⟩ := info_parts hinfo
  rcases hown.2 with ⟨h2, _⟩ | ⟨g', cap', cur, h2, hb, hg, hnc, hcm, hcs, htake⟩
  · simp at h2
  · simp only [Value.slice.injEq, Option.some.injEq, Addr.mk.injEq, and_true, true_and] at h2
    obtain ⟨rfl, rfl⟩ := h2
    have hzl : (Builtin.zeroCells zv.cells (xs.length - i)).toList = (List.replicate (xs.length - i) z).flatMap E.c := zeroCells_eq E z zv hz _
    have hlen : ((List.replicate (xs.length - i) z).flatMap E.c).length = (xs.length - i) * E.sz := by rw [E.length]; simp
    have hmul : i * E.sz + (xs.length - i) * E.sz = xs.length * E.sz := by rw [← Nat.add_mul]; congr 1; omega
    have hmul2 : xs.length * E.sz ≤ cap * E.sz := Nat.mul_le_mul_right _ hnc
    have hst := run_storeCells_at P g (i * E.sz) T ((List.replicate (xs.length - i) z).flatMap E.c) 0 cur w hg (by rw [hlen, hcs]; omega) (fun v hv => by
      rw [List.mem_flatMap] at hv
      obtain ⟨x, _, hx⟩ := hv
      exact E.one x v hx)
    simp only [Nat.add_zero] at hst
    refine ⟨w.setRow g (cur.toList.take (i * E.sz) ++ (List.replicate (xs.length - i) z).flatMap E.c ++ cur.toList.drop (i * E.sz + ((List.replicate (xs.length - i) z).flatMap E.c).length)).toArray, ?_, ?_, ⟨rfl, rfl, rfl, by simp, fun k _ hk => setRow_other w g k _ (fun e => hk (by simp [e]))⟩⟩
    · have hne : xs.length - i ≠ 0 := by omega
      obtain ⟨m, hm⟩ := Nat.exists_eq_succ_of_ne_zero hne
      rw [hm] at hst hzl ⊢
      simp only [Nat.succ_eq_add_one] at hst hzl ⊢
      simp [Builtin.clear_, run_underlying h1, zeroValue, typeInfo, hi1, hz0, hzl, hst]
    · have hl2 : (xs.take i ++ List.replicate (xs.length - i) z).length = xs.length := by simp; omega
      unfold Own
      rw [hl2]
      refine ⟨by rw [E.length, hl2], .inr ⟨g, cap, _, rfl, hb, setRow_heap w g cur _ T _ hg, hnc, hcm, ?_, ?_⟩⟩
      · simp only [List.size_toArray, List.length_append, List.length_take, List.length_drop, Array.length_toList, hlen, hcs]
        omega
      · rw [List.flatMap_append, ← E.take, ← htake, List.take_take, Nat.min_eq_left (by omega)]
        rw [show xs.length * E.sz = (cur.toList.take (i * E.sz) ++ (List.replicate (xs.length - i) z).flatMap E.c).length by
          have hcl : cur.toList.length = cap * E.sz := by rw [Array.length_toList, hcs]
          rw [List.length_append, hlen, List.length_take, hcl]; omega]
        exact List.take_left

end

/-- How far a deletion in place has come: the first i are what is kept of the first j, from j on nothing has turned. -/
structure DelInv {α : Type} (f : α → Bool) (xs L : List α) (i j : Nat) : Prop where
  take : L.take i = (xs.take j).filter fun x => !f x
  drop : L.drop j = xs.drop j

theorem filter_all {α : Type} {f : α → Bool} {xs : List α} (h : ∀ x ∈ xs, f x = true) : xs.filter f = xs := List.filter_eq_self.2 h

theorem del_start {α : Type} {f : α → Bool} {xs : List α} {t : Nat} {x : α} (hx : xs[t]? = some x) (hf : f x = true) (hno : ∀ y ∈ xs.take t, f y = false) : DelInv f xs xs t (t + 1) := by
  refine ⟨?_, rfl⟩
  rw [List.take_add_one, hx, List.filter_append, filter_all (fun y hy => by rw [hno y hy]; rfl)]
  simp [hf]

section
variable {α : Type} {f : α → Bool} {xs L : List α} {i j : Nat}
theorem DelInv.get (h : DelInv f xs L i j) {x : α} (hx : xs[j]? = some x) : L[j]? = some x := by
  have h1 : (L.drop j)[0]? = (xs.drop j)[0]? := by rw [h.drop]
  rw [List.getElem?_drop, List.getElem?_drop, Nat.add_zero] at h1
  rw [h1, hx]
theorem DelInv.keep (h : DelInv f xs L i j) (hij : i < j) {x : α} (hx : xs[j]? = some x) (hf : f x = false) : DelInv f xs (L.set i x) (i + 1) (j + 1) := by
  have hL := h.get hx
  have hjl := (List.getElem?_eq_some_iff.1 hL).1
  refine ⟨?_, ?_⟩
  · rw [List.take_add_one, List.take_add_one, hx, List.filter_append, ← h.take, List.getElem?_set, if_pos rfl, if_pos (by omega)]
    rw [List.take_set_of_le (Nat.le_refl _)]
    simp [hf]
  · rw [List.drop_set_of_lt (by omega)]
    have h1 : (L.drop j).drop 1 = (xs.drop j).drop 1 := by rw [h.drop]
    simpa [List.drop_drop] using h1
theorem DelInv.skip (h : DelInv f xs L i j) {x : α} (hx : xs[j]? = some x) (hf : f x = true) : DelInv f xs L i (j + 1) := by
  refine ⟨?_, ?_⟩
  · rw [List.take_add_one, hx, List.filter_append, h.take]; simp [hf]
  · have h1 : (L.drop j).drop 1 = (xs.drop j).drop 1 := by rw [h.drop]
    simpa [List.drop_drop] using h1
theorem DelInv.done (h : DelInv f xs L i j) (hj : xs.length ≤ j) : L.take i = xs.filter fun x => !f x := by
  rw [h.take, List.take_of_length_le hj]
end

theorem grown_of_below {w w' : World} (h : Below w.heap.size w w') (row : Option Nat) : w.grownBy w' row := ⟨h.os, h.tape, h.output, h.size, fun k hk _ => h.block k hk⟩
theorem grown_trans {w w' w'' : World} {row : Option Nat} (h : w.grownBy w' row) (k : w'.grownBy w'' row) : w.grownBy w'' row :=
  ⟨k.os.trans h.os, k.tape.trans h.tape, k.output.trans h.output, Nat.le_trans h.size k.size, fun q hq hne => (k.block q (Nat.lt_of_lt_of_le hq h.size) hne).trans (h.block q hq hne)⟩

/-- What a deletion in place hands back. -/
def DelPost {α : Type} (E : El α) (T : TypeId) (w : World) (base : Nat) (v : Value) (ys : List α) (e : Ending) (w' : World) : Prop := ∃ v', e = .returned v' ∧ Own E T w' base v' ys ∧ w.grownBy w' v.ownBlock ∧ v'.ownBlock = v.ownBlock

theorem wpList_clear {α : Type} (E : El α) {P : Program} {w : World} {ops : Array Oper} {rest : List Oper} {o : Oper} {a : Act} {Q : Exit → Act → World → Prop}
    (T : TypeId) (z : α) {zv : Value} {bytes : Nat} (hinfo : (P.info? T).map (fun i => (i.zero, i.size, i.bytes)) = some (some zv, E.sz, bytes)) (hz : zv.cells.toList = E.c z) {t : TypeId} (h1 : P.underlying t = some (.slice T))
    (base g n cap i c' : Nat) (xs : List α) (hown : Own E T w base (.slice (some ⟨g, 0, none⟩) n cap) xs) (hi : i < n) (hg : o.guard = none) (y : Operand)
    (hop : o.op = .call { callee := .builtin .clear, args := #[y], argTypes := #[t] }) (hy : a.eval y = .slice (some ⟨g, i * E.sz, none⟩) (n - i) c')
    (hK : ∀ w', Own E T w' base (.slice (some ⟨g, 0, none⟩) n cap) (xs.take i ++ List.replicate (n - i) z) → w.grownBy w' (some g) → wpList P ops Q rest (a.put o.dst (.tuple #[])) w') :
    wpList P ops Q (o :: rest) a w := by
  refine wpList_plain hg fun K hK' => ?_
  obtain ⟨w', hrun, r1, r2⟩ := run_clear (ty := o.type) (c' := c') z hinfo hz h1 hown hi
  unfold Oper.wp
  simp [execOp, hop, resolve, invoke, builtin, hy, hrun, Result.andThen]
  exact hK' _ _ (hK w' r1 r2)

/-- Row k is worked on in place, cut short, and laid back. -/
theorem Own2U.rowput {α : Type} {E : El α} {T1 T2 : TypeId} {us : List Slc} {w w' : World} {base g n cap : Nat} {p : List (List α)} (h : Own2U E T1 T2 us w base (.slice (some ⟨g, 0, none⟩) n cap) p) {k : Nat} {s s' : Slc} (hs : us[k]? = some s) {r' : List α}
    (ho : Own E T2 w' base s'.v r') (hg : w.grownBy w' s.v.ownBlock) (hb : s'.v.ownBlock = s.v.ownBlock) : Own2U E T1 T2 (us.set k s') (w'.setCell ⟨g, k, none⟩ s'.v) base (.slice (some ⟨g, 0, none⟩) n cap) (p.set k r') := by
  obtain ⟨h1, h2, h3, h4, h5⟩ := h
  have hk := (List.getElem?_eq_some_iff.1 hs).1
  have h2' := h2.grown hg (.inr (fun e => h5 k s hs g (by rw [← e]; rfl) rfl))
  have h2s := h2'.set (i := k) (j := 0) s' (u := s'.v) (by decide) hs rfl
  simp only [SlcE, Nat.mul_one, Nat.add_zero] at h2s
  have hgs : w'.grownBy (w'.setCell ⟨g, k, none⟩ s'.v) (some g) := grown_set (World.grownBy.refl _ _) _ _
  have split : ∀ (i : Nat) (u : Slc), (us.set k s')[i]? = some u → (i = k ∧ u = s') ∨ (i ≠ k ∧ us[i]? = some u) := fun i u hi => by
    rw [List.getElem?_set] at hi
    by_cases e : k = i
    · subst e; rw [if_pos rfl, if_pos hk] at hi; simp at hi; exact .inl ⟨rfl, hi.symm⟩
    · rw [if_neg e] at hi; exact .inr ⟨fun h => e h.symm, hi⟩
  have blk : ∀ (i : Nat) (u : Slc), (us.set k s')[i]? = some u → ∃ u0 : Slc, us[i]? = some u0 ∧ u.v.ownBlock = u0.v.ownBlock := fun i u hi => by
    rcases split i u hi with ⟨e1, e2⟩ | ⟨_, hi'⟩
    · exact ⟨s, by rw [e1]; exact hs, by rw [e2]; exact hb⟩
    · exact ⟨u, hi', rfl⟩
  refine ⟨by simp [h1], h2s, ?_, ?_, ?_⟩
  · intro i u r hi hr
    rcases split i u hi with ⟨e1, e2⟩ | ⟨hne, hi'⟩
    · rw [e1, List.getElem?_set, if_pos rfl, if_pos (by omega)] at hr
      simp at hr; subst hr
      rw [e2]
      refine ho.grown hgs ?_
      rcases hq : s'.v.ownBlock with _ | q
      · exact .inl rfl
      · refine .inr (fun e => ?_)
        rw [hb] at hq
        exact h5 k s hs q hq (by rw [e]; rfl)
    · rw [List.getElem?_set, if_neg (fun e => hne e.symm)] at hr
      refine ((h3 i u r hi' hr).grown hg ?_).grown hgs ?_
      · rcases hq : u.v.ownBlock with _ | q
        · exact .inl rfl
        · exact .inr (fun e => h4 i k u s hi' hs hne q hq e.symm)
      · rcases hq : u.v.ownBlock with _ | q
        · exact .inl rfl
        · exact .inr (fun e => h5 i u hi' q hq (by rw [e]; rfl))
  · intro i j u u' hi hj hij q hq hq'
    obtain ⟨u0, hu0, e0⟩ := blk i u hi
    obtain ⟨u1, hu1, e1⟩ := blk j u' hj
    exact h4 i j u0 u1 hu0 hu1 hij q (by rw [← e0]; exact hq) (by rw [← e1]; exact hq')
  · intro i u hi q hq
    obtain ⟨u0, hu0, e0⟩ := blk i u hi
    exact h5 i u0 hu0 q (by rw [← e0]; exact hq)

end Go.Proofs.Ytblheabgjjeigaa

namespace Go.Proofs.Ytblheabgjjeigaa
open Go.RowKit

/-- The place of the first element of which f says yes, or -1. -/
def IdxOfS {α : Type} (f : α → Bool) (xs : List α) (q : Int) : Prop := (q = -1 ∧ ∀ x ∈ xs, f x = false) ∨ ∃ (t : Nat) (x : α), q = t ∧ xs[t]? = some x ∧ f x = true ∧ ∀ y ∈ xs.take t, f y = false

theorem none_succS {α : Type} {f : α → Bool} {xs : List α} {t : Nat} {x : α} (h : ∀ y ∈ xs.take t, f y = false) (hx : xs[t]? = some x) (hf : f x = false) : ∀ y ∈ xs.take (t + 1), f y = false := by
  intro y hy
  rw [List.take_add_one, hx] at hy
  simp at hy
  rcases hy with hy | rfl
  · exact h y hy
  · exact hf

/-- What a function value that tests an element does, wherever it is called. -/
def Tests_i_DropFences_1 (f : Ins → Bool) : Prop := ∀ (x : Ins) (w : World), Calls Try.prog 40 #[.agg #[.int .i64 x.op, .int .i64 x.loc, .int .i64 x.reg, .int .i64 x.val]] w fun e w' => e = .returned (.bool (f x)) ∧ Below w.heap.size w w'

set_option maxHeartbeats 400000 in
theorem IndexFunc_i_DropFences_1 (v : Value) (xs : List Ins) (f : Ins → Bool) (w : World) (hx : Rep InsE w v xs) (hf : Tests_i_DropFences_1 f) :
    Calls Try.prog 78 #[v, .func (.func 40) #[] #[]] w fun e w' => (∃ q : Int, e = .returned (.int .i64 q) ∧ IdxOfS f xs q) ∧ Below w.heap.size w w' := by
  obtain ⟨a, c, rfl, hc1, hc2, hc3, hx⟩ := hx.open
  have HX := hide hx; clear hx
  have HF := hide hf; clear hf
  generalize hn : xs.length = n at *
  have H := hide hn; clear hn
  go_enter Try.func78, Try.ntmps78
  go_wp2_with fail
  go_loopw [8] (fun i wr => ∃ t : Nat, t ≤ n ∧ i = .int .i64 t ∧ Hid (∀ x ∈ xs.take t, f x = false) ∧ Below w.heap.size w wr) (fun i _ => n - (intOf i).toNat)
  case atStart => exact ⟨0, Nat.zero_le _, rfl, hide (by simp), Below.refl _ _⟩
  case round =>
    obtain ⟨t, ht, rfl, hno, hb⟩ := hrel
    by_cases hlt : t < n
    · obtain ⟨x, hxk⟩ := get_of_lt (xs := xs) (k := t) (by rw [H.out]; exact hlt)
      obtain ⟨b, o, rfl, hbl, i0, i1, i2, i3⟩ := (HX.out.below hb).ins hxk
      have hlt' := nat_of_lt hlt
      have X := hide hxk; clear hxk
      generalize hfx : f x = fx
      have FX := hide hfx; clear hfx
      have hcall := HF.out x
      rw [FX.out] at hcall
      have HC := hide hcall; clear hcall
      cases fx
      · have NO : Hid (∀ x ∈ xs.take (t + 1), f x = false) := hide (none_succS hno.out X.out FX.out)
        go_wp2_with fail
        (with_reducible refine (HC.out _).mono ?_); rintro e w2 ⟨rfl, hb2⟩
        go_wp2_with fail
        go_roundw
        case rel => exact ⟨t + 1, by omega, by go_num, NO, hb.trans (hb2.mono hb.size)⟩
        case measure => simp [intOf]; omega
      · go_wp2_with fail
        (with_reducible refine (HC.out _).mono ?_); rintro e w2 ⟨rfl, hb2⟩
        go_wp2_with fail
        go_ret
        exact ⟨⟨_, rfl, .inr ⟨t, x, rfl, X.out, FX.out, hno.out⟩⟩, hb.trans (hb2.mono hb.size)⟩
    · go_wp2_with fail
      go_ret
      refine ⟨⟨_, rfl, .inl ⟨rfl, ?_⟩⟩, hb⟩
      have h := hno.out
      rwa [List.take_of_length_le (by rw [H.out]; omega)] at h


set_option maxRecDepth 100000 in
set_option maxHeartbeats 800000 in
theorem DeleteFunc_i_DropFences_1 (v : Value) (xs : List Ins) (f : Ins → Bool) (w : World) (base : Nat) (hx : Own InsE 53 w base v xs) (hl : xs.length ≤ 1048576) (hf : Tests_i_DropFences_1 f) :
    Calls Try.prog 39 #[v, .func (.func 40) #[] #[]] w fun e w' => DelPost InsE 53 w base v (xs.filter fun x => !f x) e w' := by
  have DP : Hid (∀ v' w', Own InsE 53 w' base v' (xs.filter fun x => !f x) → w.grownBy w' v.ownBlock → v'.ownBlock = v.ownBlock → DelPost InsE 53 w base v (xs.filter fun x => !f x) (.returned v') w') := hide (fun v' w' h1 h2 h3 => ⟨v', rfl, h1, h2, h3⟩)
  have HF := hide hf; clear hf
  have HX := hide hx; clear hx
  have HI := hide (fun w' h => IndexFunc_i_DropFences_1 v xs f w' h HF.out)
  generalize hG : (xs.filter fun x => !f x) = G at *
  have HG := hide hG; clear hG
  go_enter Try.func39, Try.ntmps39
  go_wp2_with fail
  (with_reducible refine (HI.out w HX.out.rep).mono ?_); rintro e w1 ⟨⟨q, rfl, hq⟩, hb1⟩
  have HX1 := hide (HX.out.below hb1)
  have hg1 := grown_of_below hb1 v.ownBlock
  rcases hq with ⟨rfl, hno⟩ | ⟨t, x0, rfl, ht, hft, hno⟩
  · have e1 : G = xs := by rw [← HG.out]; exact filter_all (fun x h => by rw [hno x h]; rfl)
    have HE := hide e1; clear e1 hno
    go_wp2_with fail
    go_ret
    exact DP.out _ _ (by rw [HE.out]; exact HX1.out) hg1 rfl
  · rcases HX.out.shape with ⟨-, rfl⟩ | ⟨g, c, rfl, hg, hgl, hc1, hc2⟩
    · simp at ht
    · have htl := (List.getElem?_eq_some_iff.1 ht).1
      have hstart := del_start ht hft hno
      have ST := hide hstart; clear hstart ht hft hno
      generalize hn : xs.length = n at *
      have H := hide hn; clear hn
      have htl' := nat_of_lt htl
      have hm1 : ((t : Int) == -1) = false := by rw [beq_eq_false_iff_ne]; omega
      go_wp2_with fail
      go_loopw [5, 6] (fun si sj wr => ∃ (i j : Nat) (L : List Ins), i < j ∧ j ≤ n ∧ si = .int .i64 i ∧ sj = .int .i64 j ∧ Own InsE 53 wr base (.slice (some ⟨g, 0, none⟩) n c) L ∧ Hid (DelInv f xs L i j) ∧ w.grownBy wr (some g)) (fun _ sj _ => n - (intOf sj).toNat)
      case atStart => exact ⟨t, t + 1, xs, by omega, by omega, rfl, rfl, HX1.out, hide ST.out, hg1⟩
      case round =>
        obtain ⟨i, j, L, hij, hj, rfl, rfl, ho, hI, hgr⟩ := hrel
        have hLl : L.length = n := ho.len.symm
        have HLL := hide hLl; clear hLl
        by_cases hlt : j < n
        · obtain ⟨x, hxk⟩ := get_of_lt (xs := xs) (k := j) (by rw [H.out]; exact hlt)
          have hLj := hI.out.get hxk
          obtain ⟨y, hyi⟩ := get_of_lt (xs := L) (k := i) (by rw [HLL.out]; omega)
          obtain ⟨-, m0, m1, m2, m3, -⟩ := ho.ins hyi
          obtain ⟨hgl2, j0, j1, j2, j3, hfr⟩ := ho.ins hLj
          have hset := ho.setIns hyi x
          have hlt' := nat_of_lt hlt
          have hij' := nat_of_lt hij
          have X := hide hxk; have SET := hide hset; have YI := hide hyi; have LJ := hide hLj
          clear hxk hset hyi hLj
          have hcall := HF.out x
          generalize hfx : f x = fx at *
          have FX := hide hfx; have HC := hide hcall
          clear hfx hcall
          cases fx
          · have KEEP := hide (hI.out.keep hij X.out FX.out)
            go_wp2_with fail
            (with_reducible refine (HC.out _).mono ?_); rintro e w2 ⟨rfl, hb2⟩
            obtain ⟨hc2, hf2⟩ := bcell hb2
            have hsz2 : wr.heap.size + 1 ≤ w2.heap.size := by have := hb2.size; simp at this; omega
            have hset2 := (ho.alloc (.cells #[.int .i64 x.op, .int .i64 x.loc, .int .i64 x.reg, .int .i64 x.val] 53)).below hb2
            have hset3 := hset2.setIns YI.out x
            have S3 := hide hset3; clear hset2 hset3
            have hgr2 := grown_trans hgr (grown_trans (World.grownBy_alloc wr (.cells #[.int .i64 x.op, .int .i64 x.loc, .int .i64 x.reg, .int .i64 x.val] 53) (some g)) (grown_of_below hb2 (some g)))
            go_wp2_with fail
            go_roundw
            case rel => exact ⟨i + 1, j + 1, L.set i x, by omega, by omega, by go_num, by go_num, S3.out, hide KEEP.out, grown_set (grown_set (grown_set (grown_set hgr2 _ _) _ _) _ _) _ _⟩
            case measure => simp [intOf]; omega
          · have SKIP := hide (hI.out.skip X.out FX.out)
            go_wp2_with fail
            (with_reducible refine (HC.out _).mono ?_); rintro e w2 ⟨rfl, hb2⟩
            have hset2 := (ho.alloc (.cells #[.int .i64 x.op, .int .i64 x.loc, .int .i64 x.reg, .int .i64 x.val] 53)).below hb2
            have hgr2 := grown_trans hgr (grown_trans (World.grownBy_alloc wr (.cells #[.int .i64 x.op, .int .i64 x.loc, .int .i64 x.reg, .int .i64 x.val] 53) (some g)) (grown_of_below hb2 (some g)))
            go_wp2_with fail
            go_roundw
            case rel => exact ⟨i, j + 1, L, by omega, by omega, rfl, by go_num, hset2, hide SKIP.out, hgr2⟩
            case measure => simp [intOf]; omega
        · have e : j = n := by omega
          subst e
          have hin := hij
          have hin' := nat_of_lt hij
          have hic : i ≤ c := by omega
          have DONE := hide (hI.out.done (by rw [H.out]; exact Nat.le_refl _))
          go_wp2_with (refine wpList_clear InsE 53 ⟨0, 0, 0, 0⟩ Try.infoIns rfl Try.underlying51 base g _ c i _ L ho hin rfl _ rfl rfl ?_; intro w3 ho3 hgr3)
          go_ret
          have hcut := ho3.cut (i := i) (by omega)
          have hLi : (L.take i).length = i := by rw [List.length_take, HLL.out]; omega
          rw [List.take_append_of_le_length (by omega), List.take_take, Nat.min_self, DONE.out, HG.out] at hcut
          exact DP.out _ _ hcut (grown_trans hgr hgr3) rfl

end Go.Proofs.Ytblheabgjjeigaa

namespace Go.Proofs.Ytblheabgjjeigaa
open Go.RowKit

def isFence (x : Ins) : Bool := x.op == 4
def dropI (r : List Ins) : List Ins := r.filter fun x => !isFence x
def dropP (p : List (List Ins)) : List (List Ins) := p.map dropI
def dropV (p : List (List Ins)) : List (List Ins) := if progValid p = true then dropP p else []

theorem dropI_length (r : List Ins) : (dropI r).length ≤ r.length := List.length_filter_le _ _

theorem dropP_flatten (p : List (List Ins)) : (dropP p).flatten.length ≤ p.flatten.length := by
  unfold dropP
  induction p with
  | nil => exact Nat.le_refl _
  | cons r p ih =>
    have := dropI_length r
    simp at ih ⊢; omega

theorem dropTest : Tests_i_DropFences_1 isFence := by
  intro x w
  obtain ⟨x0, x1, x2, x3⟩ := x
  go_enter Try.func40, Try.ntmps40
  go_wp2
  go_ret
  exact ⟨rfl, (Below.refl _ _).alloc (Nat.le_refl _) _⟩

set_option maxRecDepth 100000 in
set_option maxHeartbeats 800000 in
theorem DropFences_any (v : Value) (p : List (List Ins)) (w : World) (hp : RepP w v p) (hl : p.flatten.length ≤ 1048576) :
    Calls Try.prog 19 #[v] w (RetOwn2B InsE 51 53 w (dropV p) (progValid p)) := by
  have HP := hide hp; clear hp
  have HV := hide (fun w' h => ProgramValid_any v p w' h hl)
  have E2 : Hid (dropV p = if progValid p = true then dropP p else []) := hide rfl
  generalize hb : progValid p = b at *
  have B := hide hb; clear hb
  cases b
  · go_enter Try.func19, Try.ntmps19
    go_wp2_with (go_at_call 18; (with_reducible refine (HV.out _ HP.out).mono ?_); rintro e w1 ⟨rfl, hb1⟩)
    go_ret2
    rw [E2.out]
    exact ⟨_, rfl, Own2.nil _ _ _ _, hb1⟩
  · obtain ⟨hv1, hv2, -, -, -⟩ := valid_le B.out
    have HR := hide (row_of_valid B.out)
    generalize hn : p.length = n at *
    have H := hide hn; clear hn
    go_enter Try.func19, Try.ntmps19
    go_wp2_with fail
    (with_reducible refine (HV.out _ HP.out).mono ?_); rintro e w1 ⟨rfl, hb1⟩
    go_wp2_with fail
    (with_reducible refine (cloneProgram_any v p w1 (HP.out.below hb1) (by rw [H.out]; omega) HR.out).mono ?_); rintro e w2 ⟨u, rfl, hu, hb2⟩
    have hb2 := Below.next hb1 hb2
    obtain ⟨us, hU, -⟩ := hu.told
    have hul := hU.1
    rcases hU.2.1.shape with ⟨-, h0⟩ | ⟨g, cap, rfl, hg1, hg2, hc1, hc2⟩
    · exfalso; rw [h0, H.out] at hul; simp at hul; omega
    · have hln : us.length = n := hul.trans H.out
      rw [hln] at hU hc1 ⊢
      clear hu hul
      have HU := hide hU; clear hU
      go_wp2_with fail
      go_loopw [13] (fun i wr => ∃ j : Nat, j ≤ n ∧ i = .int .i64 j ∧ (∃ us, Own2U InsE 51 53 us wr w1.heap.size (.slice (some ⟨g, 0, none⟩) n cap) (mapPre dropI j p)) ∧ Below w.heap.size w wr) (fun i _ => n - (intOf i).toNat)
      case atStart => exact ⟨0, by omega, rfl, ⟨us, by rw [mapPre_zero]; exact HU.out⟩, hb2⟩
      case round =>
        obtain ⟨j, hj, rfl, ⟨us', ho⟩, hb⟩ := hrel
        by_cases hlt : j < n
        · obtain ⟨x, hxk⟩ := get_of_lt (xs := p) (k := j) (by rw [H.out]; exact hlt)
          have hlt' := nat_of_lt hlt
          obtain ⟨s, hs, hgl, f0, hrow, -⟩ := ho.row (mapPre_get hxk)
          have hxl := HR.out x (List.mem_of_getElem? hxk)
          have hlo := hrow.lo
          have hfrz := ho.2.1.frozen j
          have hgne : some g ≠ s.v.ownBlock := fun e => own_ne (by decide) ho.2.1 hrow g e.symm rfl
          have X := hide hxk; have HS := hide hs; have RW := hide hrow; have HLO := hide hlo; have HGN := hide hgne; have HO := hide ho
          clear hxk hs hrow hlo hgne ho
          have f1 : wr.cell? ⟨g, j, none⟩ = some s.v := f0
          go_wp2_with fail
          (with_reducible refine (DeleteFunc_i_DropFences_1 s.v x isFence wr w1.heap.size RW.out hxl dropTest).mono ?_); rintro e w3 ⟨v', rfl, ho3, hgr, hbk⟩
          obtain ⟨s', rfl, -⟩ := ho3.toSlc
          have f2 := hgr.cell f1 HGN.out
          have hfr2 : w3.frozen? ⟨g, j, none⟩ = false := (World.frozen?_of_block (w := wr) (hgr.block g hgl HGN.out)).trans hfrz
          have hgl3 : g < w3.heap.size := lt_of_cell f2
          have hput := HO.out.rowput HS.out ho3 hgr hbk
          have hput2 : Own2U InsE 51 53 (us'.set j s') (w3.setCell ⟨g, j, none⟩ s'.v) w1.heap.size (.slice (some ⟨g, 0, none⟩) n cap) (mapPre dropI (j + 1) p) := by
            rw [← mapPre_set X.out]; exact hput
          have hb3 := hb.grown hgr hb.size (fun k hk => by have := (HLO.out k hk).1; have := hb1.size; omega)
          have HP2 := hide hput2
          clear hput hput2 hbk f0 f1
          go_wp2_with fail
          go_roundw
          case rel => exact ⟨j + 1, by omega, by go_num, ⟨_, HP2.out⟩, hb3.setCell (by have := hb1.size; simp; omega) _⟩
          case measure => simp [intOf]; omega
        · rw [mapPre_all (by rw [H.out]; omega)] at ho
          go_wp2_with fail
          go_ret2
          rw [E2.out]
          exact ⟨_, rfl, (Own2.mono ho.own hb1.size), hb⟩

end Go.Proofs.Ytblheabgjjeigaa

namespace Go.Proofs.Ytblheabgjjeigaa

/-- All lists with one element of each list of choices. -/
def prodR {α : Type} : List (List α) → List (List α)
  | [] => [[]]
  | c :: cs => c.flatMap fun y => (prodR cs).map (y :: ·)
theorem prodR_snoc {α : Type} (c : List α) : ∀ cs : List (List α), prodR (cs ++ [c]) = (prodR cs).flatMap fun x => c.map (x ++ [·]) := by
  intro cs
  induction cs with
  | nil => simp [prodR, List.flatMap_def]
           induction c with
           | nil => rfl
           | cons y c ih => simp [ih]
  | cons d cs ih =>
    rw [List.cons_append, prodR, ih, prodR, List.flatMap_assoc]
    congr 1
    funext y
    rw [List.map_flatMap, List.flatMap_map]
    congr 1
    funext x
    rw [List.map_map]
    rfl
theorem prodR_map {α β : Type} (f : α → β) : ∀ cs : List (List α), prodR (cs.map (List.map f)) = (prodR cs).map (List.map f) := by
  intro cs
  induction cs with
  | nil => rfl
  | cons c cs ih =>
    rw [List.map_cons, prodR, ih, prodR, List.map_flatMap, List.flatMap_map]
    congr 1
    funext y
    rw [List.map_map, List.map_map]
    rfl
theorem prodR_take_succ {α : Type} {cs : List (List α)} {k : Nat} {c : List α} (h : cs[k]? = some c) : prodR (cs.take (k + 1)) = (prodR (cs.take k)).flatMap fun x => c.map (x ++ [·]) := by
  rw [List.take_add_one, h]; exact prodR_snoc c _
theorem prodR_row {α : Type} : ∀ cs : List (List α), ∀ r ∈ prodR cs, r.length = cs.length := by
  intro cs
  induction cs with
  | nil => intro r hr; simp [prodR] at hr; simp [hr]
  | cons c cs ih =>
    intro r hr
    rw [prodR, List.mem_flatMap] at hr
    obtain ⟨y, -, hr⟩ := hr
    rw [List.mem_map] at hr
    obtain ⟨q, hq, rfl⟩ := hr
    simp [ih q hq]
theorem prodR_mem {α : Type} : ∀ cs : List (List α), ∀ r ∈ prodR cs, ∀ x ∈ r, ∃ c ∈ cs, x ∈ c := by
  intro cs
  induction cs with
  | nil => intro r hr; simp [prodR] at hr; simp [hr]
  | cons c cs ih =>
    intro r hr x hx
    rw [prodR, List.mem_flatMap] at hr
    obtain ⟨y, hy, hr⟩ := hr
    rw [List.mem_map] at hr
    obtain ⟨q, hq, rfl⟩ := hr
    rcases List.mem_cons.1 hx with rfl | hx
    · exact ⟨c, by simp, hy⟩
    · obtain ⟨d, hd, h⟩ := ih q hq x hx
      exact ⟨d, by simp [hd], h⟩
theorem prodR_length {α : Type} (c : List α) (cs : List (List α)) : (prodR (c :: cs)).length = c.length * (prodR cs).length := by
  rw [prodR]
  induction c with
  | nil => simp
  | cons y c ih => rw [List.flatMap_cons, List.length_append, ih, List.length_map, List.length_cons, Nat.succ_mul, Nat.add_comm]
theorem prodR_pos {α : Type} : ∀ {cs : List (List α)}, (∀ c ∈ cs, 0 < c.length) → 0 < (prodR cs).length := by
  intro cs
  induction cs with
  | nil => intro _; simp [prodR]
  | cons c cs ih => intro h; rw [prodR_length]; exact Nat.mul_pos (h c (by simp)) (ih fun d hd => h d (by simp [hd]))
theorem prodR_take_le {α : Type} : ∀ {cs : List (List α)}, (∀ c ∈ cs, 0 < c.length) → ∀ k, (prodR (cs.take k)).length ≤ (prodR cs).length := by
  intro cs
  induction cs with
  | nil => intro _ k; simp
  | cons c cs ih =>
    intro h k
    cases k with
    | zero => simp only [List.take_zero]; exact prodR_pos h
    | succ k =>
      rw [List.take_succ_cons, prodR_length, prodR_length]
      exact Nat.mul_le_mul_left _ (ih (fun d hd => h d (by simp [hd])) k)

/-- What event i can read from. -/
def chF (es : List Ev) (i : Nat) : List Int := match es[i]? with
  | some e => if e.r = true then (wrL es e.l).filter (fun k => !(k == (i : Int))) else [-1]
  | none => []
def chsF (es : List Ev) : List (List Int) := (List.range es.length).map (chF es)
def chO (es : List Ev) (l : Nat) : List (List Int) := (permsL (wrL es l).tail).map ((l : Int) :: ·)
def chsO (es : List Ev) : List (List (List Int)) := (List.range 3).map (chO es)

theorem pre1_flat (i : Nat) (rest : List (List Int)) : ∀ xs : List Int, xs.flatMap (pre1 i rest) = (xs.filter (fun k => !(k == (i : Int)))).flatMap fun k => rest.map (k :: ·) := by
  intro xs
  induction xs with
  | nil => rfl
  | cons x xs ih =>
    rw [List.flatMap_cons, ih]
    by_cases h : x = (i : Int)
    · simp [pre1, h]
    · simp [pre1, h]
theorem fromsL_prod {es : List Ev} : ∀ (n i : Nat), i + n = es.length → fromsL es i = prodR ((chsF es).drop i) := by
  intro n
  induction n with
  | zero =>
    intro i hi
    obtain rfl : i = es.length := by omega
    rw [fromsL_end, List.drop_of_length_le (by simp [chsF])]; rfl
  | succ n ih =>
    intro i hi
    have hlt : i < es.length := by omega
    rw [fromsL_step hlt, List.drop_eq_getElem_cons (by simp [chsF]; exact hlt), prodR, ← ih (i + 1) (by omega), pre1_flat]
    congr 1
    simp only [chsF, List.getElem_map, List.getElem_range]
    unfold fromC chF
    rw [List.getElem?_eq_getElem hlt]
    simp only
    split
    · rfl
    · have : ¬ ((-1 : Int) = (i : Int)) := by omega
      simp [this]
theorem fromsL_eq (es : List Ev) : fromsL es 0 = prodR (chsF es) := fromsL_prod es.length 0 (by omega)
theorem ordsL_eq (p : List (List Ins)) : ordsL (evAll p) 0 = prodR (chsO (evAll p)) := by
  have h : ∀ l : Nat, l < 3 → (wrL (evAll p) l).headD 0 = (l : Int) := fun l hl => by
    have := head_wrL (p := p) hl
    cases hw : wrL (evAll p) l with
    | nil => rw [hw] at this; cases this
    | cons y ys => rw [hw] at this; simpa using this
  have st : ∀ l : Nat, l < 3 → ∀ X, ordsL (evAll p) (l + 1) = X → ordsL (evAll p) l = (chO (evAll p) l).flatMap fun y => X.map (y :: ·) := fun l hl X hX => by
    rw [ordsL_step hl, h l hl, hX, chO, List.flatMap_map]
  rw [st 0 (by omega) _ (st 1 (by omega) _ (st 2 (by omega) _ (ordsL_end _)))]
  rfl
theorem allX_eq (p : List (List Ins)) : allX (evAll p) = (prodR (chsF (evAll p))).flatMap fun f => (prodR (chsO (evAll p))).map (⟨f, ·⟩) := by
  unfold allX; rw [fromsL_eq, ordsL_eq]

/-- What counts of an event, and of an instruction. -/
def evK (e : Ev) : Bool × Bool × Int := (e.r, e.w, e.l)
def inK (x : Ins) : Bool × Bool × Int := (isRop x.op, isWop x.op, x.loc)
theorem evRow_k (t : Nat) (r : List Ins) : ∀ k, k ≤ r.length → (evRow t r k).map evK = (dropI (r.take k)).map inK := by
  intro k
  induction k with
  | zero => intro _; simp [evRow, dropI]
  | succ k ih =>
    intro hk
    obtain ⟨x, hx⟩ := get_of_lt (xs := r) (k := k) hk
    rw [evRow_succ hx, List.map_append, ih (by omega), List.take_add_one, hx]
    unfold dropI evOf
    rw [List.filter_append, List.map_append]
    congr 1
    by_cases h : x.op = 4 <;> simp [isFence, h, evK, inK]
theorem evTo_k (p : List (List Ins)) : ∀ j, j ≤ p.length → (evTo p j).map evK = (dropP (p.take j)).flatten.map inK := by
  intro j
  induction j with
  | zero => intro _; simp [evTo, dropP]
  | succ j ih =>
    intro hj
    obtain ⟨r, hr⟩ := get_of_lt (xs := p) (k := j) hj
    have h := evRow_k j r r.length (Nat.le_refl _)
    rw [List.take_length] at h
    rw [evTo_succ hr, List.map_append, ih (by omega), h, List.take_add_one, hr]
    simp [dropP]
theorem evAll_k (p : List (List Ins)) : (evAll p).map evK = (evHead 3).map evK ++ (dropP p).flatten.map inK := by
  unfold evAll
  rw [List.map_append, evTo_k p p.length (Nat.le_refl _), List.take_length]
theorem dropI_idem (r : List Ins) : dropI (dropI r) = dropI r := by unfold dropI; rw [List.filter_filter]; simp
theorem dropP_idem (p : List (List Ins)) : dropP (dropP p) = dropP p := by unfold dropP; rw [List.map_map]; congr 1; funext r; exact dropI_idem r
theorem evAll_drop (p : List (List Ins)) : (evAll (dropP p)).map evK = (evAll p).map evK := by rw [evAll_k, evAll_k, dropP_idem]

section
variable {es es' : List Ev}
theorem key_get (h : es.map evK = es'.map evK) (i : Nat) : (es[i]? = none ∧ es'[i]? = none) ∨ ∃ e e', es[i]? = some e ∧ es'[i]? = some e' ∧ e.r = e'.r ∧ e.w = e'.w ∧ e.l = e'.l := by
  have h1 := congrArg (·[i]?) h
  simp only [List.getElem?_map] at h1
  cases h2 : es[i]? with
  | none => rw [h2] at h1; cases h3 : es'[i]? with
    | none => exact .inl ⟨rfl, rfl⟩
    | some e' => rw [h3] at h1; cases h1
  | some e => rw [h2] at h1; cases h3 : es'[i]? with
    | none => rw [h3] at h1; cases h1
    | some e' =>
      rw [h3] at h1
      simp only [Option.map_some, Option.some.injEq, evK, Prod.mk.injEq] at h1
      exact .inr ⟨e, e', rfl, rfl, h1.1, h1.2.1, h1.2.2⟩
theorem key_length (h : es.map evK = es'.map evK) : es.length = es'.length := by simpa using congrArg List.length h
theorem wrL_key (h : es.map evK = es'.map evK) (l : Int) : wrL es l = wrL es' l := by
  unfold wrL wrTo
  rw [key_length h]
  unfold List.flatMap
  congr 1
  apply List.map_congr_left
  intro i _
  rcases key_get h i with ⟨h1, h2⟩ | ⟨e, e', h1, h2, -, h4, h5⟩
  · rw [h1, h2]
  · rw [h1, h2]; simp only [wr1, h4, h5]
theorem chsF_key (h : es.map evK = es'.map evK) : chsF es = chsF es' := by
  unfold chsF
  rw [key_length h]
  apply List.map_congr_left
  intro i _
  unfold chF
  rcases key_get h i with ⟨h1, h2⟩ | ⟨e, e', h1, h2, h3, -, h5⟩
  · rw [h1, h2]
  · rw [h1, h2]; simp only [h3, h5, wrL_key h]
theorem chsO_key (h : es.map evK = es'.map evK) : chsO es = chsO es' := by
  unfold chsO
  apply List.map_congr_left
  intro l _
  unfold chO
  rw [wrL_key h]
end
theorem allX_drop (p : List (List Ins)) : allX (evAll (dropP p)) = allX (evAll p) := by
  rw [allX_eq, allX_eq, chsF_key (evAll_drop p), chsO_key (evAll_drop p)]

theorem insValid_fence {x : Ins} (_ : insValid x = true) : True := trivial
theorem countP_drop (f : Ins → Bool) (hf : ∀ x : Ins, x.op = 4 → f x = false) (r : List Ins) : (dropI r).countP f = r.countP f := by
  unfold dropI
  rw [List.countP_filter]
  apply List.countP_congr
  intro x _
  unfold isFence
  by_cases h : x.op = 4
  · simp [h, hf x h]
  · simp [h]
theorem cnt_drop (f : Ins → Bool) (hf : ∀ x : Ins, x.op = 4 → f x = false) (p : List (List Ins)) : cnt f (dropP p) = cnt f p := by
  unfold cnt dropP
  induction p with
  | nil => rfl
  | cons r p ih => rw [List.map_cons, List.flatten_cons, List.flatten_cons, List.countP_append, List.countP_append, ih, countP_drop f hf]
theorem pl_drop (p : List (List Ins)) (l : Nat) : pl (dropP p) l = pl p l := by
  unfold pl
  rw [cnt_drop (fW l) (fun x hx => by simp [fW, isWop, hx]), cnt_drop (fR l) (fun x hx => by simp [fR, isRop, hx])]
theorem rowOk_drop {r : List Ins} (h : rowOk r = true) : rowOk (dropI r) = true := by
  unfold rowOk at h ⊢
  simp only [Bool.and_eq_true, List.all_eq_true, decide_eq_true_eq] at h ⊢
  refine ⟨fun x hx => h.1 x ?_, Nat.le_trans (dropI_length r) h.2⟩
  unfold dropI at hx
  exact (List.mem_filter.1 hx).1
theorem progValid_drop {p : List (List Ins)} (h : progValid p = true) : progValid (dropP p) = true := by
  unfold progValid shapeOk at h ⊢
  simp only [Bool.and_eq_true, List.all_eq_true, decide_eq_true_eq] at h ⊢
  obtain ⟨⟨⟨⟨h1, h2⟩, h3⟩, h4⟩, h5⟩ := h
  refine ⟨⟨⟨⟨by simpa [dropP] using h1, fun r hr => ?_⟩, ?_⟩, by simpa [dropP] using h4⟩, ?_⟩
  · unfold dropP at hr
    obtain ⟨q, hq, rfl⟩ := List.mem_map.1 hr
    exact rowOk_drop (h2 q hq)
  · rw [cnt_drop notFence (fun x hx => by simp [notFence, hx])]; exact h3
  · unfold prodP at h5 ⊢
    simp only [prodTo, pl_drop] at h5 ⊢; exact h5

/-- The choices of a valid program are not many. -/
structure FewC (p : List (List Ins)) : Prop where
  fr : ∀ k, (prodR ((chsF (evAll p)).take k)).length ≤ 3000
  od : ∀ k, (prodR ((chsO (evAll p)).take k)).length ≤ 3000
theorem prodR_ne {α : Type} : ∀ {cs : List (List α)}, 0 < (prodR cs).length → ∀ c ∈ cs, 0 < c.length := by
  intro cs
  induction cs with
  | nil => intro _ c hc; simp at hc
  | cons d cs ih =>
    intro h c hc
    rw [prodR_length] at h
    rcases List.mem_cons.1 hc with rfl | hc
    · exact Nat.pos_of_mul_pos_right h |> fun _ => (Nat.pos_iff_ne_zero.2 fun e => by rw [e, Nat.zero_mul] at h; omega)
    · exact ih (Nat.pos_iff_ne_zero.2 fun e => by rw [e, Nat.mul_zero] at h; omega) c hc
theorem fewC {p : List (List Ins)} (h : progValid p = true) (hf : 0 < (fromsL (evAll p) 0).length) (ho : 0 < (ordsL (evAll p) 0).length) : FewC p := by
  have hw := few h
  have h1 := hw.froms 0; have h2 := hw.ords 0
  rw [fromsL_eq] at h1 hf; rw [ordsL_eq] at h2 ho
  exact ⟨fun k => Nat.le_trans (prodR_take_le (prodR_ne hf) k) h1, fun k => Nat.le_trans (prodR_take_le (prodR_ne ho) k) h2⟩

end Go.Proofs.Ytblheabgjjeigaa

namespace Go.Proofs.Ytblheabgjjeigaa
open Go.Proofs Go.Shelf
def Try.laysDel_ren : Go.Shelf.Ren := ⟨fun | 23 => 90 | n => n, fun | 22 => 24 | 3 => 3 | 4 => 4 | 0 => 0 | n => n, fun | n => n⟩
theorem Try.laysDel : Go.Proofs.Lays2.n23 Try.prog Try.laysDel_ren := {
  mixed := by kernel_rfl
  f23 := Try.func90.trans (congrArg some (by kernel_rfl))
  t0 := Try.underlying0
  a0 := Try.isAgg0
  z0 := Try.sizeOf0
  v0 := Try.zeroValue0
  t3 := Try.underlying3
  a3 := Try.isAgg3
  z3 := Try.sizeOf3
  v3 := Try.zeroValue3
  t4 := Try.underlying4
  a4 := Try.isAgg4
  z4 := Try.sizeOf4
  v4 := Try.zeroValue4
  t22 := Try.underlying24
  a22 := Try.isAgg24
  z22 := Try.sizeOf24
  v22 := Try.zeroValue24
  i3 := by kernel_rfl }
end Go.Proofs.Ytblheabgjjeigaa

namespace Go.Proofs.Ytblheabgjjeigaa
open Go.RowKit Go.Shelf Go.Sort

theorem intE_mapK (xs : List Int) : xs.flatMap IntE.c = xs.map (Value.int .i64) := by
  induction xs with
  | nil => rfl
  | cons x xs ih => rw [List.flatMap_cons, ih]; rfl
theorem grownBy_put {w : World} {g n : Nat} (d : Array Int) : w.grownBy (putRow (Value.int .i64) (Sort.ahead w n) g 0 d) (some g) := by
  refine ⟨rfl, rfl, rfl, by simp [putRow, mapBlock, Sort.ahead], fun k hk hne => ?_⟩
  have : g ≠ k := fun e => hne (by rw [e])
  simp [putRow, mapBlock, Sort.ahead, Array.getElem?_modify, this]
theorem Delete_any (v : Value) (xs : List Int) (w : World) (base i : Nat) (h : Own IntE 3 w base v xs) (hi : i < xs.length) :
    Calls Try.prog 90 #[v, .int .i64 i, .int .i64 ((i : Int) + 1)] w fun e w' => ∃ u : Slc, e = .returned (.slice u.a u.n u.cap) ∧ Own IntE 3 w' base u.v (xs.eraseIdx i) ∧ w.grownBy w' v.ownBlock := by
  have hne : v ≠ .slice none 0 0 := by
    rintro rfl
    rcases h.shape with ⟨-, h0⟩ | ⟨g, cap, h1, -⟩
    · rw [h0] at hi; simp at hi
    · cases h1
  unfold Own at h
  rw [intE_mapK] at h
  have h' : w.ownsRow base 3 1 v xs.length (xs.map (Value.int .i64)) := h
  obtain ⟨g, cap, rfl, hg1, hg2, hc1, hc2, -, hH⟩ := Lib.holds_of_ownsRow h' hne
  have hc := Any.slices_Delete_int Try.laysDel g 0 cap i (i + 1) xs w hH hc1 (by unfold maxLen at hc2; omega) (by omega) (by omega)
  have hcast : ((i + 1 : Nat) : Int) = (i : Int) + 1 := by omega
  rw [hcast] at hc
  change Calls Try.prog 90 _ _ _ at hc
  refine hc.mono fun _ w' ⟨a, q, b⟩ => ?_
  subst b
  have hs : i + 1 - i = 1 := by omega
  rw [hs] at a ⊢
  have hl : (xs.take i ++ xs.drop (i + 1) ++ List.replicate 1 (0 : Int)).length = xs.length := by simp; omega
  have h2 := Lib.ownsRow_putRow (q := q) (k := xs.length - 1) h' hl (by omega)
  have he : (xs.take i ++ xs.drop (i + 1) ++ List.replicate 1 (0 : Int)).take (xs.length - 1) = xs.eraseIdx i := by
    rw [List.eraseIdx_eq_take_drop_succ, List.take_append_of_le_length (by simp; omega), List.take_of_length_le (by simp; omega)]
  rw [he] at h2
  refine ⟨⟨some ⟨g, 0, none⟩, xs.length - 1, cap⟩, a, ?_, grownBy_put _⟩
  unfold Own
  rw [intE_mapK, show (xs.eraseIdx i).length = xs.length - 1 by rw [List.length_eraseIdx, if_pos hi]]
  exact h2

end Go.Proofs.Ytblheabgjjeigaa

namespace Go.Proofs.Ytblheabgjjeigaa
open Go.RowKit

/-- One element is appended: and where the row lies then. -/
theorem wpList_appL {α : Type} (E : El α) {P : Program} {w : World} {ops : Array Oper} {rest : List Oper} {o : Oper} {a : Act} {Q : Exit → Act → World → Prop}
    (T : TypeId) {zv : Value} {bytes : Nat} (hinfo : (P.info? T).map (fun i => (i.zero, i.size, i.bytes)) = some (some zv, E.sz, bytes)) (hz : zv.cells.size = E.sz) {t : TypeId} (h1 : P.underlying t = some (.slice T))
    (base : Nat) (v : Value) (xs : List α) (x : α) (hown : Own E T w base v xs) (hby : bytes ≤ 256) (hn : xs.length ≤ 68719476736) (hbase : base ≤ w.heap.size)
    (hg : o.guard = none) (s y : Operand) (hop : o.op = .call { callee := .builtin .append, args := #[s, y], argTypes := #[t, t] })
    (hs : a.eval s = v) (b off c : Nat) (hy : a.eval y = .slice (some ⟨b, off, none⟩) 1 c) (hnews : ∀ j u, (E.c x)[j]? = some u → w.cell? ⟨b, off + j, none⟩ = some u)
    (hK : ∀ (u : Slc) w', Own E T w' base u.v (xs ++ [x]) → w.grownBy w' v.ownBlock → (u.v.ownBlock = v.ownBlock ∨ u.v.ownBlock = some w.heap.size) → wpList P ops Q rest (a.put o.dst (.slice u.a u.n u.cap)) w') :
    wpList P ops Q (o :: rest) a w := by
  obtain ⟨it, hi, hz0, hz1, hz2⟩ := info_parts hinfo
  refine wpList_append_lies w hg s y t hop base T it zv E.sz bytes h1 hi hz0 hz1 hz2 hz E.pos v xs.length _ hs hown ⟨b, off, none⟩ 1 c (E.c x) hy (by rw [E.len, Nat.one_mul]) ?_ (E.one x) (by omega) (by unfold maxLen; omega) ?_ hbase _ rfl ?_
  · intro j u hu
    have hadd : (⟨b, off, none⟩ : Addr).add j = ⟨b, off + j, none⟩ := by unfold Addr.add; split <;> simp_all
    rw [hadd]
    exact hnews j u hu
  · have := Nat.mul_le_mul (show xs.length + 1 ≤ 68719476737 by omega) hby
    omega
  · intro g cap w' h2 h3 h4 _
    refine hK ⟨some ⟨g, 0, none⟩, xs.length + 1, cap⟩ w' ?_ h3 ?_
    · unfold Own
      simpa [List.flatMap_append, Slc.v] using h2
    · rcases h4 with h4 | h4
      · exact .inl (by rw [h4]; rfl)
      · exact .inr (by rw [h4]; rfl)

theorem one_nil (w : World) : RowsI (w.alloc (.cells #[.slice none 0 0] 24)) w.heap.size (.slice (some ⟨w.heap.size, 0, none⟩) 1 1) [[]] := by
  have h1 := Own.lit1 (E := SlcE) (T := 24) w (base := w.heap.size) (Nat.le_refl _) ⟨none, 0, 0⟩
  refine ⟨[⟨none, 0, 0⟩], [⟨w.heap.size, w.heap.size, []⟩], rfl, rfl, by simp, h1, fun i u d x h2 h3 h4 => ?_⟩
  cases i with
  | succ i => simp at h2
  | zero =>
    simp at h2 h3 h4
    subst h2; subst h3; subst h4
    have h0 := Own.nil (E := IntE) 3 w w.heap.size
    exact ⟨Nat.le_refl _, (PhiI.loc (u := ⟨none, 0, 0⟩) h0).below ((Below.refl _ w).alloc (Nat.le_refl _) _)⟩

set_option maxRecDepth 100000 in
set_option maxHeartbeats 6400000 in
theorem orders_any (n : Nat) : ∀ (v : Value) (xs : List Int) (w : World), xs.length = n → fact n ≤ 3000 → Rep IntE w v xs →
    Calls Try.prog 67 #[v] w fun e w' => ∃ u : Slc, e = .returned (.slice u.a u.n u.cap) ∧ RowsI w' w.heap.size u.v (permsL xs) ∧ Below w.heap.size w w' := by
  induction n with
  | zero =>
    intro v xs w hx _ he
    obtain rfl : xs = [] := List.length_eq_zero_iff.1 hx
    obtain ⟨a, c, rfl, -, -, -, -⟩ := he.open
    rw [permsL_nil]
    go_enter Try.func67, Try.ntmps67
    go_wp2_with fail
    go_ret
    exact ⟨⟨some ⟨w.heap.size, 0, none⟩, 1, 1⟩, rfl, one_nil w, (Below.refl _ _).alloc (Nat.le_refl _) _⟩
  | succ n ih =>
    intro v xs w hx hfact he
    have hn6 := fact_lt hfact
    have HI := hide (fun v' xs' w' h1 h2 => ih v' xs' w' h1 (Nat.le_trans (fact_mono (Nat.le_succ n)) hfact) h2)
    have HP0 : Hid (permTo xs 0 = []) := hide rfl
    have HPS := hide (permTo_succ xs)
    have HPL := hide (fun k (hk : k ≤ n + 1) => Nat.le_trans (permTo_length xs k (by omega)) (by rw [hx]; exact hfact))
    have HPE : Hid (permsL xs = permTo xs (n + 1)) := hide (by rw [permsL_step (by omega), hx]; rfl)
    have HE := hide he
    have HXL := hide hx
    have HCL := hide (CloneV_any v xs)
    obtain ⟨a, c, rfl, hnc, -, -, -⟩ := he.open
    obtain ⟨x0, hx0⟩ := get_of_lt (xs := xs) (k := 0) (by omega)
    obtain ⟨b, o, rfl, hbl, -⟩ := he.int hx0
    rw [hx] at hnc ⊢
    have hne : (((n + 1 : Nat) : Int) == 0) = false := by simp; omega
    rw [hx] at HE HCL
    have HFA : Hid (fact (n + 1) ≤ 3000) := hide hfact
    clear he ih hx hx0 hfact
    generalize permsL xs = R at *
    generalize hm : n + 1 = m at *
    have HM := hide hm
    clear hm
    go_enter Try.func67, Try.ntmps67
    go_wp2_with fail
    go_loopw [3, 14] (fun s i wr => ∃ k : Nat, k ≤ m ∧ i = .int .i64 k ∧ RowsI wr w.heap.size s (permTo xs k) ∧ Below w.heap.size w wr) (fun _ i _ => m - (intOf i).toNat)
    case atStart => exact ⟨0, Nat.zero_le _, rfl, by rw [HP0.out]; exact OwnF.nil _ w _, Below.refl _ _⟩
    case round =>
      obtain ⟨k, hk, rfl, hrows, hbr⟩ := hrel
      by_cases hlt : k < m
      · obtain ⟨x, hxk⟩ := get_of_lt (xs := xs) (k := k) (by rw [HXL.out]; exact hlt)
        have hltk := nat_of_lt hlt
        have PS := hide (HPS.out k)
        have hgd : xs.getD k 0 = x := by simp [List.getD, hxk]
        rw [hgd] at PS
        have PL := hide (HPL.out k hk)
        generalize permTo xs k = G at *
        have HEr := HE.out.below hbr
        obtain ⟨b', o', hbo, hbf, f0⟩ := HEr.int hxk
        simp only [Option.some.injEq, Addr.mk.injEq, and_true] at hbo
        obtain ⟨rfl, rfl⟩ := hbo
        have hwk : wrap64 ((k : Int) + 1) = (k : Int) + 1 := by unfold wrap64; omega
        have hwk2 : IntKind.i64.wrap ((k : Int) + 1) = (k : Int) + 1 := by rw [IntKind.wrap_i64]; omega
        have HC1 := hide (HCL.out wr HEr (by omega))
        have HEE := hide HEr
        have HRO := hide hrows; have HBR := hide hbr
        clear HEr hrows hbr
        go_wp2_with fail
        (with_reducible refine HC1.out.mono ?_); rintro e w1 ⟨vc, rfl, oc, hb1⟩
        have HD := hide (Delete_any vc xs w1 wr.heap.size k oc (by rw [HXL.out]; exact hlt))
        have HB1 := hide hb1; have HOC := hide oc
        obtain ⟨⟨ca, cn, cc⟩, rfl, -⟩ := oc.toSlc
        clear oc hb1 HC1
        go_wp2_with fail
        (with_reducible refine HD.out.mono ?_); rintro e w2 ⟨⟨da, dn, dc⟩, rfl, od, hg2⟩
        have HB2 := hide (HB1.out.grown hg2 HB1.out.size (fun q hq => (World.ownsRow.lt HOC.out q hq).1))
        have HC := hide (HI.out _ (xs.eraseIdx k) w2 (by rw [List.length_eraseIdx, HXL.out, if_pos hlt]; have := HM.out; omega) od.rep)
        have HRL := hide (fun r (hr : r ∈ permsL (xs.eraseIdx k)) => permsL_row n (xs.eraseIdx k) (by rw [List.length_eraseIdx, HXL.out, if_pos hlt]; have := HM.out; omega) r hr)
        have HRN0 := hide (permsL_length (xs.eraseIdx k))
        have HEL : Hid (fact (xs.eraseIdx k).length ≤ 3000) := hide (by
          rw [List.length_eraseIdx, HXL.out, if_pos hlt]
          refine Nat.le_trans (fact_mono (Nat.sub_le m 1)) ?_
          have := HFA.out
          exact this)
        have HB7 := hide (HBR.out.trans (HB2.out.mono HBR.out.size))
        have HR7 := hide (OwnF.below HRO.out HB2.out)
        have HQ3 : Hid (∀ q, u3.ownBlock = some q → q < w2.heap.size) := hide (fun q hq => by
          obtain ⟨us, ds, hU⟩ := HRO.out
          exact Nat.lt_of_lt_of_le (World.ownsRow.lt hU.own q hq).2 HB2.out.size)
        clear od hg2 HB2 HD HB1 HOC HRO HBR hwk hwk2 hbf f0 HEE
        generalize permsL (xs.eraseIdx k) = RR at *
        go_wp2_with fail
        (with_reducible refine HC.out.mono ?_); rintro e w8 ⟨⟨ra, rn, rc⟩, rfl, ou, hb8⟩
        have hrn : rn = RR.length := by
          rcases ou.shape with ⟨h1, h2⟩ | ⟨g, cap, h1, -⟩
          · simp only [Slc.v, Value.slice.injEq] at h1; rw [h1.2.1, h2]; rfl
          · simp only [Slc.v, Value.slice.injEq] at h1; exact h1.2.1
        have HRN : Hid (RR.length = rn) := hide hrn.symm
        have hrb : rn ≤ 3000 := by have := HRN0.out; have := HEL.out; omega
        have HRS := hide ou
        have HQ8 : Hid (∀ q, (Slc.v ⟨ra, rn, rc⟩).ownBlock = some q → w2.heap.size ≤ q ∧ q < w8.heap.size) := hide (fun q hq => by
          obtain ⟨us, ds, hU⟩ := ou
          exact World.ownsRow.lt hU.own q hq)
        have HR8 := hide (OwnF.below HR7.out hb8)
        have HB8 := hide (HB7.out.trans (hb8.mono HB7.out.size))
        have h78 := hb8.size
        clear ou hb8 hrn HR7 HB7 HC
        go_wp2_with fail
        go_loopw [3, 27] (fun s i wr => ∃ j : Nat, j ≤ rn ∧ i = .int .i64 j ∧ RowsI wr w.heap.size s (G ++ (RR.take j).map (x :: ·)) ∧ RowsI wr w2.heap.size (.slice ra rn rc) RR ∧ Hid (∀ q, s.ownBlock = some q → q < w2.heap.size ∨ w8.heap.size ≤ q) ∧ Below w.heap.size w wr ∧ w8.heap.size ≤ wr.heap.size) (fun _ i _ => rn - (intOf i).toNat)
        case atStart => exact ⟨0, Nat.zero_le _, rfl, by rw [List.take_zero, List.map_nil, List.append_nil]; exact HR8.out, HRS.out, hide (fun q hq => .inl (HQ3.out q hq)), HB8.out, Nat.le_refl _⟩
        case round =>
          obtain ⟨j, hj, rfl, hrows, hrest, hsq, hbr, hsz⟩ := hrel
          by_cases hltj : j < rn
          · obtain ⟨r, hrj⟩ := get_of_lt (xs := RR) (k := j) (by rw [HRN.out]; exact hltj)
            have hltj' := nat_of_lt hltj
            obtain ⟨⟨sa, sn, sc⟩, g, hga, hg, g0, hrep⟩ := RowsI.row hrest hrj
            subst hga
            have hgq := HQ8.out g rfl
            have RS : Hid (G ++ (RR.take (j + 1)).map (x :: ·) = (G ++ (RR.take j).map (x :: ·)) ++ [x :: r]) := hide (by rw [map_take_succ (x :: ·) hrj, List.append_assoc])
            have hrl := HRL.out r (List.mem_of_getElem? hrj)
            have hlen : (G ++ (RR.take j).map (x :: ·)).length ≤ 68719476736 := by
              rw [List.length_append, List.length_map, List.length_take]
              have := PL.out; have := HRN.out; omega
            have hn1 : ([x] : List Int).length + r.length ≤ 68719476736 := by have := HM.out; simp; omega
            have HRP := hide (hrep.below ((Below.refl wr.heap.size wr).alloc (Nat.le_refl _) (.cells #[.int .i64 x] 3)))
            obtain ⟨us, ds, hU⟩ := hrows
            have HUL : Hid (us.length ≤ 68719476736) := hide (by rw [hU.lu]; exact hlen)
            have HU := hide hU
            have HBR2 := hide hbr
            have HRS2 := hide hrest
            have HLT : Hid (Own IntE 3 (wr.alloc (.cells #[.int .i64 x] 3)) wr.heap.size (.slice (some ⟨wr.heap.size, 0, none⟩) 1 1) [x]) := hide (Own.lit1 (E := IntE) (T := 3) wr (Nat.le_refl _) x)
            have hbs : w.heap.size ≤ wr.heap.size := hbr.size
            have HQ7 : Hid (∀ q, u3.ownBlock = some q → w.heap.size ≤ q ∧ q ≠ g) := hide (fun q hq => ⟨(World.ownsRow.lt hU.own q hq).1, by have := hsq.out q hq; omega⟩)
            generalize G ++ (RR.take j).map (x :: ·) = GG at *
            clear hrj hrep hbr hrl hU hlen hrest
            go_wp2_with (at_builtin; first
              | (refine wpList_appS IntE 3 Try.infoInt rfl Try.underlying24 wr.heap.size _ [x] r _ HLT.out HRP.out (by decide) hn1 (by simp) rfl _ _ rfl rfl rfl ?_; intro v6 w6 hown6 hgr6; obtain ⟨⟨a6, n6, c6⟩, rfl, -⟩ := hown6.toSlc; have O6 := hide hown6; have B6 := hide (((Below.refl wr.heap.size wr).alloc (Nat.le_refl _) (.cells #[.int .i64 x] 3)).grown hgr6 (by simp) (fun q hq => by simp [Value.ownBlock] at hq; omega)); have hb6 := B6.out.size; clear hown6 hgr6)
              | (refine wpList_appL SlcE 24 Try.infoIntS rfl Try.underlying25 w.heap.size _ us ⟨a6, n6, c6⟩ ((HU.out.own.below B6.out).alloc _) (by decide) HUL.out (by simp; omega) rfl _ _ rfl rfl w6.heap.size 0 1 rfl news_alloc ?_; rintro ⟨ua, un, uc⟩ w9 hown8 hgr8 hv8))
            have R8 := RowsI.app HU.out B6.out hbs rfl O6.out hown8 hgr8
            have B8 := (HBR2.out.trans (B6.out.mono hbs)).alloc (by omega) (.cells #[.slice a6 n6 c6] 24)
            have B9 := B8.grown hgr8 (by simp; omega) (fun q hq => (HQ7.out q hq).1)
            have ba := (Below.refl w6.heap.size w6).alloc (Nat.le_refl _) (.cells #[.slice a6 n6 c6] 24)
            have S9 := OwnF.grown_ne (OwnF.below (OwnF.below HRS2.out B6.out) ba) ((HU.out.own.below B6.out).below ba) hgr8 (.inr fun e => (HQ7.out g e.symm).2 rfl)
            have hs9 := hgr8.size
            simp only [World.size_alloc] at hs9 hv8
            have HQ9 : Hid (∀ q, (Value.slice ua un uc).ownBlock = some q → q < w2.heap.size ∨ w8.heap.size ≤ q) := hide (fun q hq => by
              rcases hv8 with h | h
              · rw [show (Value.slice ua un uc).ownBlock = _ from h] at hq; exact hsq.out q hq
              · rw [show (Value.slice ua un uc).ownBlock = _ from h] at hq; simp at hq; omega)
            have HR8 := hide R8; have HS9 := hide S9; have HB9 := hide B9
            clear R8 S9 B9 B8
            go_roundw
            case rel => exact ⟨j + 1, by omega, by go_num, by rw [RS.out]; exact HR8.out, HS9.out, HQ9, HB9.out, by omega⟩
            case measure => simp [intOf]; omega
          · obtain rfl : j = rn := by omega
            rw [List.take_of_length_le (by rw [HRN.out]; exact Nat.le_refl _), ← PS.out] at hrows
            go_wp2_with fail
            go_roundw
            case rel => exact ⟨k + 1, by omega, by go_num, hrows, hbr⟩
            case measure => simp [intOf]; omega
      · obtain rfl : k = m := by omega
        obtain ⟨us, ds, hU⟩ := hrows
        obtain ⟨⟨qa, qn, qc⟩, rfl, -⟩ := hU.own.toSlc
        have hrows : RowsI _ _ _ _ := ⟨us, ds, hU⟩
        clear hU
        go_wp2_with fail
        go_ret
        exact ⟨⟨qa, qn, qc⟩, rfl, by rw [HPE.out]; exact hrows, hbr⟩

end Go.Proofs.Ytblheabgjjeigaa
