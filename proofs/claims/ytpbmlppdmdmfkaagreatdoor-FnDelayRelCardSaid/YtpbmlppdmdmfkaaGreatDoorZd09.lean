/-
  Union, meet and composition of relations, in the program and in the reference. Condition: few elements.
-/
import Derived.Test.YtpbmlppdmdmfkaaGreatDoorZd02
import Derived.Test.YtpbmlppdmdmfkaaGreatDoorZd01
import Derived.Test.YtpbmlppdmdmfkaaGreatDoorZd08
import Derived.Test.YtpbmlppdmdmfkaaGreatDoorZd07
import Derived.Test.YtpbmlppdmdmfkaaGreatDoorZd06
import Derived.Test.YtpbmlppdmdmfkaaGreatDoorZd05
import Derived.Deep.RegionHeld3
namespace Go.Proofs.YtpbmlppdmdmfkaaGreatDoor
open Go.RowKit

theorem zeroCells_eq {α : Type} (E : El α) (z : α) (zv : Value) (hz : zv.cells.toList = E.c z) (n : Nat) : (Builtin.zeroCells zv.cells n).toList = (List.replicate n z).flatMap E.c := by
  have h := made_eq (E := E) z zv hz n
  have hsz : zv.cells.size = E.sz := by rw [← Array.length_toList, hz, E.len]
  rw [← h]
  simp [Builtin.zeroCells, madeCells, hsz]

theorem El.take {α : Type} (E : El α) (xs : List α) (i : Nat) : (xs.flatMap E.c).take (i * E.sz) = (xs.take i).flatMap E.c := by
  induction xs generalizing i with
  | nil => simp
  | cons x xs ih =>
    cases i with
    | zero => simp
    | succ i =>
      rw [List.flatMap_cons, List.take_succ_cons, List.flatMap_cons, List.take_append, E.len, List.take_of_length_le (by rw [E.len, Nat.add_mul]; omega),
        show (i + 1) * E.sz - E.sz = i * E.sz by rw [Nat.add_mul]; omega, ih]

section
variable {α : Type} {E : El α} {T : TypeId}

/-- 's[:i]'. -/
theorem Own.cut {w : World} {base g n cap : Nat} {xs : List α} (h : Own E T w base (.slice (some ⟨g, 0, none⟩) n cap) xs) {i : Nat} (hi : i ≤ n) : Own E T w base (.slice (some ⟨g, 0, none⟩) i cap) (xs.take i) := by
  have hn := h.len
  subst hn
  unfold Own at *
  have hl : (xs.take i).length = i := by rw [List.length_take]; omega
  rcases h.2 with ⟨h1, _⟩ | ⟨g', cap', cur, h1, h2, h3, h4, h5, h6, h7⟩
  · simp at h1
  · simp only [Value.slice.injEq, Option.some.injEq, Addr.mk.injEq, and_true, true_and] at h1
    obtain ⟨rfl, rfl⟩ := h1
    rw [hl]
    refine ⟨by rw [E.length, hl], .inr ⟨g, cap, cur, rfl, h2, h3, by omega, h5, h6, ?_⟩⟩
    rw [← E.take, ← h7, List.take_take, Nat.min_eq_left (Nat.mul_le_mul_right _ hi)]

/-- 'clear(s[i:])'. -/
theorem run_clear {P : Program} {w : World} {base g n cap i c' : Nat} {xs : List α} (z : α) {zv : Value} {bytes : Nat} (hinfo : (P.info? T).map (fun i => (i.zero, i.size, i.bytes)) = some (some zv, E.sz, bytes)) (hz : zv.cells.toList = E.c z)
    {t ty : TypeId} (h1 : P.underlying t = some (.slice T)) (hown : Own E T w base (.slice (some ⟨g, 0, none⟩) n cap) xs) (hi : i < n) :
    ∃ w', (Builtin.clear_ #[t] ty #[.slice (some ⟨g, i * E.sz, none⟩) (n - i) c']).run P w = .ok (.tuple #[]) w' ∧ Own E T w' base (.slice (some ⟨g, 0, none⟩) n cap) (xs.take i ++ List.replicate (n - i) z) ∧ w.grownBy w' (some g) := by
  have hn := hown.len
  subst hn
  obtain ⟨it, hi1, hz0, hz1, hz2⟩ := info_parts hinfo
  rcases hown.2 with ⟨h2, _⟩ | ⟨g', cap', cur, h2, hb, hg, hnc, hcm, hcs, htake⟩
  · simp at h2
  · simp only [Value.slice.injEq, Option.some.injEq, Addr.mk.injEq, and_true, true_and] at h2
    obtain ⟨rfl, rfl⟩ := h2
    have hzl : (Builtin.zeroCells zv.cells (xs.length - i)).toList = (List.replicate (xs.length - i) z).flatMap E.c := zeroCells_eq E z zv hz _
    have hlen : ((List.replicate (xs.length - i) z).flatMap E.c).length = (xs.length - i) * E.sz := by rw [E.length]; simp
    have hmul : i * E.sz + (xs.length - i) * E.sz = xs.length * E.sz := by rw [← Nat.add_mul]; congr 1; omega
    have hmul2 : xs.length * E.sz ≤ cap * E.sz := Nat.mul_le_mul_right _ hnc
    have hst := run_storeCells_at P g (i * E.sz) T ((List.replicate (xs.length - i) z).flatMap E.c) 0 cur w hg (by rw [hlen, hcs]; omega) (fun v hv => by
      rw [List.mem_flatMap] at hv
      obtain ⟨x, _, hx⟩ := hv
      exact E.one x v hx)
    simp only [Nat.add_zero] at hst
    refine ⟨w.setRow g (cur.toList.take (i * E.sz) ++ (List.replicate (xs.length - i) z).flatMap E.c ++ cur.toList.drop (i * E.sz + ((List.replicate (xs.length - i) z).flatMap E.c).length)).toArray, ?_, ?_, ⟨rfl, rfl, rfl, by simp, fun k _ hk => setRow_other w g k _ (fun e => hk (by simp [e]))⟩⟩
    · have hne : xs.length - i ≠ 0 := by omega
      obtain ⟨m, hm⟩ := Nat.exists_eq_succ_of_ne_zero hne
      rw [hm] at hst hzl ⊢
      simp only [Nat.succ_eq_add_one] at hst hzl ⊢
      simp [Builtin.clear_, run_underlying h1, zeroValue, typeInfo, hi1, hz0, hzl, hst]
    · have hl2 : (xs.take i ++ List.replicate (xs.length - i) z).length = xs.length := by simp; omega
      unfold Own
      rw [hl2]
      refine ⟨by rw [E.length, hl2], .inr ⟨g, cap, _, rfl, hb, setRow_heap w g cur _ T _ hg, hnc, hcm, ?_, ?_⟩⟩
      · simp only [List.size_toArray, List.length_append, List.length_take, List.length_drop, Array.length_toList, hlen, hcs]
        omega
      · rw [List.flatMap_append, ← E.take, ← htake, List.take_take, Nat.min_eq_left (by omega)]
        rw [show xs.length * E.sz = (cur.toList.take (i * E.sz) ++ (List.replicate (xs.length - i) z).flatMap E.c).length by
          have hcl : cur.toList.length = cap * E.sz := by rw [Array.length_toList, hcs]
          rw [List.length_append, hlen, List.length_take, hcl]; omega]
        exact List.take_left

end

/-- How far a deletion in place has come: the first i are what is kept of the first j, from j on nothing has turned. -/
structure DelInv {α : Type} (f : α → Bool) (xs L : List α) (i j : Nat) : Prop where
  take : L.take i = (xs.take j).filter fun x => !f x
  drop : L.drop j = xs.drop j

theorem filter_all {α : Type} {f : α → Bool} {xs : List α} (h : ∀ x ∈ xs, f x = true) : xs.filter f = xs := List.filter_eq_self.2 h

theorem del_start {α : Type} {f : α → Bool} {xs : List α} {t : Nat} {x : α} (hx : xs[t]? = some x) (hf : f x = true) (hno : ∀ y ∈ xs.take t, f y = false) : DelInv f xs xs t (t + 1) := by
  refine ⟨?_, rfl⟩
  rw [List.take_add_one, hx, List.filter_append, filter_all (fun y hy => by rw [hno y hy]; rfl)]
  simp [hf]

section
variable {α : Type} {f : α → Bool} {xs L : List α} {i j : Nat}
theorem DelInv.get (h : DelInv f xs L i j) {x : α} (hx : xs[j]? = some x) : L[j]? = some x := by
  have h1 : (L.drop j)[0]? = (xs.drop j)[0]? := by rw [h.drop]
  rw [List.getElem?_drop, List.getElem?_drop, Nat.add_zero] at h1
  rw [h1, hx]
theorem DelInv.keep (h : DelInv f xs L i j) (hij : i < j) {x : α} (hx : xs[j]? = some x) (hf : f x = false) : DelInv f xs (L.set i x) (i + 1) (j + 1) := by
  have hL := h.get hx
  have hjl := (List.getElem?_eq_some_iff.1 hL).1
  refine ⟨?_, ?_⟩
  · rw [List.take_add_one, List.take_add_one, hx, List.filter_append, ← h.take, List.getElem?_set, if_pos rfl, if_pos (by omega)]
    rw [List.take_set_of_le (Nat.le_refl _)]
    simp [hf]
  · rw [List.drop_set_of_lt (by omega)]
    have h1 : (L.drop j).drop 1 = (xs.drop j).drop 1 := by rw [h.drop]
    simpa [List.drop_drop] using h1
theorem DelInv.skip (h : DelInv f xs L i j) {x : α} (hx : xs[j]? = some x) (hf : f x = true) : DelInv f xs L i (j + 1) := by
  refine ⟨?_, ?_⟩
  · rw [List.take_add_one, hx, List.filter_append, h.take]; simp [hf]
  · have h1 : (L.drop j).drop 1 = (xs.drop j).drop 1 := by rw [h.drop]
    simpa [List.drop_drop] using h1
theorem DelInv.done (h : DelInv f xs L i j) (hj : xs.length ≤ j) : L.take i = xs.filter fun x => !f x := by
  rw [h.take, List.take_of_length_le hj]
end

theorem grown_of_below {w w' : World} (h : Below w.heap.size w w') (row : Option Nat) : w.grownBy w' row := ⟨h.os, h.tape, h.output, h.size, fun k hk _ => h.block k hk⟩
theorem grown_trans {w w' w'' : World} {row : Option Nat} (h : w.grownBy w' row) (k : w'.grownBy w'' row) : w.grownBy w'' row :=
  ⟨k.os.trans h.os, k.tape.trans h.tape, k.output.trans h.output, Nat.le_trans h.size k.size, fun q hq hne => (k.block q (Nat.lt_of_lt_of_le hq h.size) hne).trans (h.block q hq hne)⟩

/-- What a deletion in place hands back. -/
def DelPost {α : Type} (E : El α) (T : TypeId) (w : World) (base : Nat) (v : Value) (ys : List α) (e : Ending) (w' : World) : Prop := ∃ v', e = .returned v' ∧ Own E T w' base v' ys ∧ w.grownBy w' v.ownBlock ∧ v'.ownBlock = v.ownBlock

theorem wpList_clear {α : Type} (E : El α) {P : Program} {w : World} {ops : Array Oper} {rest : List Oper} {o : Oper} {a : Act} {Q : Exit → Act → World → Prop}
    (T : TypeId) (z : α) {zv : Value} {bytes : Nat} (hinfo : (P.info? T).map (fun i => (i.zero, i.size, i.bytes)) = some (some zv, E.sz, bytes)) (hz : zv.cells.toList = E.c z) {t : TypeId} (h1 : P.underlying t = some (.slice T))
    (base g n cap i c' : Nat) (xs : List α) (hown : Own E T w base (.slice (some ⟨g, 0, none⟩) n cap) xs) (hi : i < n) (hg : o.guard = none) (y : Operand)
    (hop : o.op = .call { callee := .builtin .clear, args := #[y], argTypes := #[t] }) (hy : a.eval y = .slice (some ⟨g, i * E.sz, none⟩) (n - i) c')
    (hK : ∀ w', Own E T w' base (.slice (some ⟨g, 0, none⟩) n cap) (xs.take i ++ List.replicate (n - i) z) → w.grownBy w' (some g) → wpList P ops Q rest (a.put o.dst (.tuple #[])) w') :
    wpList P ops Q (o :: rest) a w := by
  refine wpList_plain hg fun K hK' => ?_
  obtain ⟨w', hrun, r1, r2⟩ := run_clear (ty := o.type) (c' := c') z hinfo hz h1 hown hi
  unfold Oper.wp
  simp [execOp, hop, resolve, invoke, builtin, hy, hrun, Result.andThen]
  exact hK' _ _ (hK w' r1 r2)

/-- Row k is worked on in place, cut short, and laid back. -/
theorem Own2U.rowput {α : Type} {E : El α} {T1 T2 : TypeId} {us : List Slc} {w w' : World} {base g n cap : Nat} {p : List (List α)} (h : Own2U E T1 T2 us w base (.slice (some ⟨g, 0, none⟩) n cap) p) {k : Nat} {s s' : Slc} (hs : us[k]? = some s) {r' : List α}
    (ho : Own E T2 w' base s'.v r') (hg : w.grownBy w' s.v.ownBlock) (hb : s'.v.ownBlock = s.v.ownBlock) : Own2U E T1 T2 (us.set k s') (w'.setCell ⟨g, k, none⟩ s'.v) base (.slice (some ⟨g, 0, none⟩) n cap) (p.set k r') := by
  obtain ⟨h1, h2, h3, h4, h5⟩ := h
  have hk := (List.getElem?_eq_some_iff.1 hs).1
  have h2' := h2.grown hg (.inr (fun e => h5 k s hs g (by rw [← e]; rfl) rfl))
  have h2s := h2'.set (i := k) (j := 0) s' (u := s'.v) (by decide) hs rfl
  simp only [SlcE, Nat.mul_one, Nat.add_zero] at h2s
  have hgs : w'.grownBy (w'.setCell ⟨g, k, none⟩ s'.v) (some g) := grown_set (World.grownBy.refl _ _) _ _
  have split : ∀ (i : Nat) (u : Slc), (us.set k s')[i]? = some u → (i = k ∧ u = s') ∨ (i ≠ k ∧ us[i]? = some u) := fun i u hi => by
    rw [List.getElem?_set] at hi
    by_cases e : k = i
    · subst e; rw [if_pos rfl, if_pos hk] at hi; simp at hi; exact .inl ⟨rfl, hi.symm⟩
    · rw [if_neg e] at hi; exact .inr ⟨fun h => e h.symm, hi⟩
  have blk : ∀ (i : Nat) (u : Slc), (us.set k s')[i]? = some u → ∃ u0 : Slc, us[i]? = some u0 ∧ u.v.ownBlock = u0.v.ownBlock := fun i u hi => by
    rcases split i u hi with ⟨e1, e2⟩ | ⟨_, hi'⟩
    · exact ⟨s, by rw [e1]; exact hs, by rw [e2]; exact hb⟩
    · exact ⟨u, hi', rfl⟩
  refine ⟨by simp [h1], h2s, ?_, ?_, ?_⟩
  · intro i u r hi hr
    rcases split i u hi with ⟨e1, e2⟩ | ⟨hne, hi'⟩
    · rw [e1, List.getElem?_set, if_pos rfl, if_pos (by omega)] at hr
      simp at hr; subst hr
      rw [e2]
      refine ho.grown hgs ?_
      rcases hq : s'.v.ownBlock with _ | q
      · exact .inl rfl
      · refine .inr (fun e => ?_)
        rw [hb] at hq
        exact h5 k s hs q hq (by rw [e]; rfl)
    · rw [List.getElem?_set, if_neg (fun e => hne e.symm)] at hr
      refine ((h3 i u r hi' hr).grown hg ?_).grown hgs ?_
      · rcases hq : u.v.ownBlock with _ | q
        · exact .inl rfl
        · exact .inr (fun e => h4 i k u s hi' hs hne q hq e.symm)
      · rcases hq : u.v.ownBlock with _ | q
        · exact .inl rfl
        · exact .inr (fun e => h5 i u hi' q hq (by rw [e]; rfl))
  · intro i j u u' hi hj hij q hq hq'
    obtain ⟨u0, hu0, e0⟩ := blk i u hi
    obtain ⟨u1, hu1, e1⟩ := blk j u' hj
    exact h4 i j u0 u1 hu0 hu1 hij q (by rw [← e0]; exact hq) (by rw [← e1]; exact hq')
  · intro i u hi q hq
    obtain ⟨u0, hu0, e0⟩ := blk i u hi
    exact h5 i u0 hu0 q (by rw [← e0]; exact hq)

end Go.Proofs.YtpbmlppdmdmfkaaGreatDoor

namespace Go.Proofs.YtpbmlppdmdmfkaaGreatDoor
open Go.RowKit

/-- The place of the first element of which f says yes, or -1. -/
def IdxOfS {α : Type} (f : α → Bool) (xs : List α) (q : Int) : Prop := (q = -1 ∧ ∀ x ∈ xs, f x = false) ∨ ∃ (t : Nat) (x : α), q = t ∧ xs[t]? = some x ∧ f x = true ∧ ∀ y ∈ xs.take t, f y = false

theorem none_succS {α : Type} {f : α → Bool} {xs : List α} {t : Nat} {x : α} (h : ∀ y ∈ xs.take t, f y = false) (hx : xs[t]? = some x) (hf : f x = false) : ∀ y ∈ xs.take (t + 1), f y = false := by
  intro y hy
  rw [List.take_add_one, hx] at hy
  simp at hy
  rcases hy with hy | rfl
  · exact h y hy
  · exact hf

end Go.Proofs.YtpbmlppdmdmfkaaGreatDoor

namespace Go.Proofs.YtpbmlppdmdmfkaaGreatDoor
open Go.RowKit

def isFence (x : Ins) : Bool := x.op == 4
def dropI (r : List Ins) : List Ins := r.filter fun x => !isFence x
def dropP (p : List (List Ins)) : List (List Ins) := p.map dropI
def dropV (p : List (List Ins)) : List (List Ins) := if progValid p = true then dropP p else []

theorem dropI_length (r : List Ins) : (dropI r).length ≤ r.length := List.length_filter_le _ _

theorem dropP_flatten (p : List (List Ins)) : (dropP p).flatten.length ≤ p.flatten.length := by
  unfold dropP
  induction p with
  | nil => exact Nat.le_refl _
  | cons r p ih =>
    have := dropI_length r
    simp at ih ⊢; omega

end Go.Proofs.YtpbmlppdmdmfkaaGreatDoor

namespace Go.Proofs.YtpbmlppdmdmfkaaGreatDoor

/-- All lists with one element of each list of choices. -/
def prodR {α : Type} : List (List α) → List (List α)
  | [] => [[]]
  | c :: cs => c.flatMap fun y => (prodR cs).map (y :: ·)
theorem prodR_snoc {α : Type} (c : List α) : ∀ cs : List (List α), prodR (cs ++ [c]) = (prodR cs).flatMap fun x => c.map (x ++ [·]) := by
  intro cs
  induction cs with
  | nil => simp [prodR, List.flatMap_def]
           induction c with
           | nil => rfl
           | cons y c ih => simp [ih]
  | cons d cs ih =>
    rw [List.cons_append, prodR, ih, prodR, List.flatMap_assoc]
    congr 1
    funext y
    rw [List.map_flatMap, List.flatMap_map]
    congr 1
    funext x
    rw [List.map_map]
    rfl
theorem prodR_map {α β : Type} (f : α → β) : ∀ cs : List (List α), prodR (cs.map (List.map f)) = (prodR cs).map (List.map f) := by
  intro cs
  induction cs with
  | nil => rfl
  | cons c cs ih =>
    rw [List.map_cons, prodR, ih, prodR, List.map_flatMap, List.flatMap_map]
    congr 1
    funext y
    rw [List.map_map, List.map_map]
    rfl
theorem prodR_take_succ {α : Type} {cs : List (List α)} {k : Nat} {c : List α} (h : cs[k]? = some c) : prodR (cs.take (k + 1)) = (prodR (cs.take k)).flatMap fun x => c.map (x ++ [·]) := by
  rw [List.take_add_one, h]; exact prodR_snoc c _
theorem prodR_row {α : Type} : ∀ cs : List (List α), ∀ r ∈ prodR cs, r.length = cs.length := by
  intro cs
  induction cs with
  | nil => intro r hr; simp [prodR] at hr; simp [hr]
  | cons c cs ih =>
    intro r hr
    rw [prodR, List.mem_flatMap] at hr
    obtain ⟨y, -, hr⟩ := hr
    rw [List.mem_map] at hr
    obtain ⟨q, hq, rfl⟩ := hr
    simp [ih q hq]
theorem prodR_mem {α : Type} : ∀ cs : List (List α), ∀ r ∈ prodR cs, ∀ x ∈ r, ∃ c ∈ cs, x ∈ c := by
  intro cs
  induction cs with
  | nil => intro r hr; simp [prodR] at hr; simp [hr]
  | cons c cs ih =>
    intro r hr x hx
    rw [prodR, List.mem_flatMap] at hr
    obtain ⟨y, hy, hr⟩ := hr
    rw [List.mem_map] at hr
    obtain ⟨q, hq, rfl⟩ := hr
    rcases List.mem_cons.1 hx with rfl | hx
    · exact ⟨c, by simp, hy⟩
    · obtain ⟨d, hd, h⟩ := ih q hq x hx
      exact ⟨d, by simp [hd], h⟩
theorem prodR_length {α : Type} (c : List α) (cs : List (List α)) : (prodR (c :: cs)).length = c.length * (prodR cs).length := by
  rw [prodR]
  induction c with
  | nil => simp
  | cons y c ih => rw [List.flatMap_cons, List.length_append, ih, List.length_map, List.length_cons, Nat.succ_mul, Nat.add_comm]
theorem prodR_pos {α : Type} : ∀ {cs : List (List α)}, (∀ c ∈ cs, 0 < c.length) → 0 < (prodR cs).length := by
  intro cs
  induction cs with
  | nil => intro _; simp [prodR]
  | cons c cs ih => intro h; rw [prodR_length]; exact Nat.mul_pos (h c (by simp)) (ih fun d hd => h d (by simp [hd]))
theorem prodR_take_le {α : Type} : ∀ {cs : List (List α)}, (∀ c ∈ cs, 0 < c.length) → ∀ k, (prodR (cs.take k)).length ≤ (prodR cs).length := by
  intro cs
  induction cs with
  | nil => intro _ k; simp
  | cons c cs ih =>
    intro h k
    cases k with
    | zero => simp only [List.take_zero]; exact prodR_pos h
    | succ k =>
      rw [List.take_succ_cons, prodR_length, prodR_length]
      exact Nat.mul_le_mul_left _ (ih (fun d hd => h d (by simp [hd])) k)

/-- What event i can read from. -/
def chF (es : List Ev) (i : Nat) : List Int := match es[i]? with
  | some e => if e.r = true then (wrL es e.l).filter (fun k => !(k == (i : Int))) else [-1]
  | none => []
def chsF (es : List Ev) : List (List Int) := (List.range es.length).map (chF es)
def chO (es : List Ev) (l : Nat) : List (List Int) := (permsL (wrL es l).tail).map ((l : Int) :: ·)
def chsO (es : List Ev) : List (List (List Int)) := (List.range 3).map (chO es)

theorem pre1_flat (i : Nat) (rest : List (List Int)) : ∀ xs : List Int, xs.flatMap (pre1 i rest) = (xs.filter (fun k => !(k == (i : Int)))).flatMap fun k => rest.map (k :: ·) := by
  intro xs
  induction xs with
  | nil => rfl
  | cons x xs ih =>
    rw [List.flatMap_cons, ih]
    by_cases h : x = (i : Int)
    · simp [pre1, h]
    · simp [pre1, h]
theorem fromsL_prod {es : List Ev} : ∀ (n i : Nat), i + n = es.length → fromsL es i = prodR ((chsF es).drop i) := by
  intro n
  induction n with
  | zero =>
    intro i hi
    obtain rfl : i = es.length := by omega
    rw [fromsL_end, List.drop_of_length_le (by simp [chsF])]; rfl
  | succ n ih =>
    intro i hi
    have hlt : i < es.length := by omega
    rw [fromsL_step hlt, List.drop_eq_getElem_cons (by simp [chsF]; exact hlt), prodR, ← ih (i + 1) (by omega), pre1_flat]
    congr 1
    simp only [chsF, List.getElem_map, List.getElem_range]
    unfold fromC chF
    rw [List.getElem?_eq_getElem hlt]
    simp only
    split
    · rfl
    · have : ¬ ((-1 : Int) = (i : Int)) := by omega
      simp [this]
theorem fromsL_eq (es : List Ev) : fromsL es 0 = prodR (chsF es) := fromsL_prod es.length 0 (by omega)
theorem ordsL_eq (p : List (List Ins)) : ordsL (evAll p) 0 = prodR (chsO (evAll p)) := by
  have h : ∀ l : Nat, l < 3 → (wrL (evAll p) l).headD 0 = (l : Int) := fun l hl => by
    have := head_wrL (p := p) hl
    cases hw : wrL (evAll p) l with
    | nil => rw [hw] at this; cases this
    | cons y ys => rw [hw] at this; simpa using this
  have st : ∀ l : Nat, l < 3 → ∀ X, ordsL (evAll p) (l + 1) = X → ordsL (evAll p) l = (chO (evAll p) l).flatMap fun y => X.map (y :: ·) := fun l hl X hX => by
    rw [ordsL_step hl, h l hl, hX, chO, List.flatMap_map]
  rw [st 0 (by omega) _ (st 1 (by omega) _ (st 2 (by omega) _ (ordsL_end _)))]
  rfl
theorem allX_eq (p : List (List Ins)) : allX (evAll p) = (prodR (chsF (evAll p))).flatMap fun f => (prodR (chsO (evAll p))).map (⟨f, ·⟩) := by
  unfold allX; rw [fromsL_eq, ordsL_eq]

/-- What counts of an event, and of an instruction. -/
def evK (e : Ev) : Bool × Bool × Int := (e.r, e.w, e.l)
def inK (x : Ins) : Bool × Bool × Int := (isRop x.op, isWop x.op, x.loc)
theorem evRow_k (t : Nat) (r : List Ins) : ∀ k, k ≤ r.length → (evRow t r k).map evK = (dropI (r.take k)).map inK := by
  intro k
  induction k with
  | zero => intro _; simp [evRow, dropI]
  | succ k ih =>
    intro hk
    obtain ⟨x, hx⟩ := get_of_lt (xs := r) (k := k) hk
    rw [evRow_succ hx, List.map_append, ih (by omega), List.take_add_one, hx]
    unfold dropI evOf
    rw [List.filter_append, List.map_append]
    congr 1
    by_cases h : x.op = 4 <;> simp [isFence, h, evK, inK]
theorem evTo_k (p : List (List Ins)) : ∀ j, j ≤ p.length → (evTo p j).map evK = (dropP (p.take j)).flatten.map inK := by
  intro j
  induction j with
  | zero => intro _; simp [evTo, dropP]
  | succ j ih =>
    intro hj
    obtain ⟨r, hr⟩ := get_of_lt (xs := p) (k := j) hj
    have h := evRow_k j r r.length (Nat.le_refl _)
    rw [List.take_length] at h
    rw [evTo_succ hr, List.map_append, ih (by omega), h, List.take_add_one, hr]
    simp [dropP]
theorem evAll_k (p : List (List Ins)) : (evAll p).map evK = (evHead 3).map evK ++ (dropP p).flatten.map inK := by
  unfold evAll
  rw [List.map_append, evTo_k p p.length (Nat.le_refl _), List.take_length]
theorem dropI_idem (r : List Ins) : dropI (dropI r) = dropI r := by unfold dropI; rw [List.filter_filter]; simp
theorem dropP_idem (p : List (List Ins)) : dropP (dropP p) = dropP p := by unfold dropP; rw [List.map_map]; congr 1; funext r; exact dropI_idem r
theorem evAll_drop (p : List (List Ins)) : (evAll (dropP p)).map evK = (evAll p).map evK := by rw [evAll_k, evAll_k, dropP_idem]

section
variable {es es' : List Ev}
theorem key_get (h : es.map evK = es'.map evK) (i : Nat) : (es[i]? = none ∧ es'[i]? = none) ∨ ∃ e e', es[i]? = some e ∧ es'[i]? = some e' ∧ e.r = e'.r ∧ e.w = e'.w ∧ e.l = e'.l := by
  have h1 := congrArg (·[i]?) h
  simp only [List.getElem?_map] at h1
  cases h2 : es[i]? with
  | none => rw [h2] at h1; cases h3 : es'[i]? with
    | none => exact .inl ⟨rfl, rfl⟩
    | some e' => rw [h3] at h1; cases h1
  | some e => rw [h2] at h1; cases h3 : es'[i]? with
    | none => rw [h3] at h1; cases h1
    | some e' =>
      rw [h3] at h1
      simp only [Option.map_some, Option.some.injEq, evK, Prod.mk.injEq] at h1
      exact .inr ⟨e, e', rfl, rfl, h1.1, h1.2.1, h1.2.2⟩
theorem key_length (h : es.map evK = es'.map evK) : es.length = es'.length := by simpa using congrArg List.length h
theorem wrL_key (h : es.map evK = es'.map evK) (l : Int) : wrL es l = wrL es' l := by
  unfold wrL wrTo
  rw [key_length h]
  unfold List.flatMap
  congr 1
  apply List.map_congr_left
  intro i _
  rcases key_get h i with ⟨h1, h2⟩ | ⟨e, e', h1, h2, -, h4, h5⟩
  · rw [h1, h2]
  · rw [h1, h2]; simp only [wr1, h4, h5]
theorem chsF_key (h : es.map evK = es'.map evK) : chsF es = chsF es' := by
  unfold chsF
  rw [key_length h]
  apply List.map_congr_left
  intro i _
  unfold chF
  rcases key_get h i with ⟨h1, h2⟩ | ⟨e, e', h1, h2, h3, -, h5⟩
  · rw [h1, h2]
  · rw [h1, h2]; simp only [h3, h5, wrL_key h]
theorem chsO_key (h : es.map evK = es'.map evK) : chsO es = chsO es' := by
  unfold chsO
  apply List.map_congr_left
  intro l _
  unfold chO
  rw [wrL_key h]
end
theorem allX_drop (p : List (List Ins)) : allX (evAll (dropP p)) = allX (evAll p) := by
  rw [allX_eq, allX_eq, chsF_key (evAll_drop p), chsO_key (evAll_drop p)]

theorem insValid_fence {x : Ins} (_ : insValid x = true) : True := trivial
theorem countP_drop (f : Ins → Bool) (hf : ∀ x : Ins, x.op = 4 → f x = false) (r : List Ins) : (dropI r).countP f = r.countP f := by
  unfold dropI
  rw [List.countP_filter]
  apply List.countP_congr
  intro x _
  unfold isFence
  by_cases h : x.op = 4
  · simp [h, hf x h]
  · simp [h]
theorem cnt_drop (f : Ins → Bool) (hf : ∀ x : Ins, x.op = 4 → f x = false) (p : List (List Ins)) : cnt f (dropP p) = cnt f p := by
  unfold cnt dropP
  induction p with
  | nil => rfl
  | cons r p ih => rw [List.map_cons, List.flatten_cons, List.flatten_cons, List.countP_append, List.countP_append, ih, countP_drop f hf]
theorem pl_drop (p : List (List Ins)) (l : Nat) : pl (dropP p) l = pl p l := by
  unfold pl
  rw [cnt_drop (fW l) (fun x hx => by simp [fW, isWop, hx]), cnt_drop (fR l) (fun x hx => by simp [fR, isRop, hx])]
theorem rowOk_drop {r : List Ins} (h : rowOk r = true) : rowOk (dropI r) = true := by
  unfold rowOk at h ⊢
  simp only [Bool.and_eq_true, List.all_eq_true, decide_eq_true_eq] at h ⊢
  refine ⟨fun x hx => h.1 x ?_, Nat.le_trans (dropI_length r) h.2⟩
  unfold dropI at hx
  exact (List.mem_filter.1 hx).1
theorem progValid_drop {p : List (List Ins)} (h : progValid p = true) : progValid (dropP p) = true := by
  unfold progValid shapeOk at h ⊢
  simp only [Bool.and_eq_true, List.all_eq_true, decide_eq_true_eq] at h ⊢
  obtain ⟨⟨⟨⟨h1, h2⟩, h3⟩, h4⟩, h5⟩ := h
  refine ⟨⟨⟨⟨by simpa [dropP] using h1, fun r hr => ?_⟩, ?_⟩, by simpa [dropP] using h4⟩, ?_⟩
  · unfold dropP at hr
    obtain ⟨q, hq, rfl⟩ := List.mem_map.1 hr
    exact rowOk_drop (h2 q hq)
  · rw [cnt_drop notFence (fun x hx => by simp [notFence, hx])]; exact h3
  · unfold prodP at h5 ⊢
    simp only [prodTo, pl_drop] at h5 ⊢; exact h5

/-- The choices of a valid program are not many. -/
structure FewC (p : List (List Ins)) : Prop where
  fr : ∀ k, (prodR ((chsF (evAll p)).take k)).length ≤ 3000
  od : ∀ k, (prodR ((chsO (evAll p)).take k)).length ≤ 3000
theorem prodR_ne {α : Type} : ∀ {cs : List (List α)}, 0 < (prodR cs).length → ∀ c ∈ cs, 0 < c.length := by
  intro cs
  induction cs with
  | nil => intro _ c hc; simp at hc
  | cons d cs ih =>
    intro h c hc
    rw [prodR_length] at h
    rcases List.mem_cons.1 hc with rfl | hc
    · exact Nat.pos_of_mul_pos_right h |> fun _ => (Nat.pos_iff_ne_zero.2 fun e => by rw [e, Nat.zero_mul] at h; omega)
    · exact ih (Nat.pos_iff_ne_zero.2 fun e => by rw [e, Nat.mul_zero] at h; omega) c hc
theorem fewC {p : List (List Ins)} (h : progValid p = true) (hf : 0 < (fromsL (evAll p) 0).length) (ho : 0 < (ordsL (evAll p) 0).length) : FewC p := by
  have hw := few h
  have h1 := hw.froms 0; have h2 := hw.ords 0
  rw [fromsL_eq] at h1 hf; rw [ordsL_eq] at h2 ho
  exact ⟨fun k => Nat.le_trans (prodR_take_le (prodR_ne hf) k) h1, fun k => Nat.le_trans (prodR_take_le (prodR_ne ho) k) h2⟩

end Go.Proofs.YtpbmlppdmdmfkaaGreatDoor

namespace Go.Proofs.YtpbmlppdmdmfkaaGreatDoor
open Go.RowKit

theorem belowAlloc0 (w : World) (o : Obj) : Below w.heap.size w (w.alloc o) := (Below.refl _ _).alloc (Nat.le_refl _) o

theorem if_bit (b : Bool) : ((if b = true then (1 : Int) else 0) == 1) = b := by cases b <;> rfl

set_option maxHeartbeats 400000 in
theorem related_any (v : Value) (n i k : Nat) (f : Nat → Nat → Bool) (w : World) (hx : Rep IntE w v (relOf n f)) (hn : n ≤ 60) (hi : i < n) (hk : k < n) :
    Calls Tryz.prog 213 #[v, .int .i64 i, .int .i64 k] w fun e w' => e = .returned (.bool (f i k)) ∧ w = w' := by
  obtain ⟨a, c, rfl, -, -, -, hx⟩ := hx.open
  simp only [relOf_length] at *
  obtain ⟨b, o, rfl, hbl, i0⟩ := hx.int (relOf_get hi)
  have hB := bitsTo_bit (f i) hn hk
  have hlt := bitsTo_lt (f i) n hn
  have hIB := if_bit (f i k)
  have hi' := nat_of_lt hi
  clear hx
  generalize bitsTo (f i) n = row at *
  have HB := hide hB; have HI := hide hIB
  have h0 := hlt.1
  clear hB hIB hlt
  go_enter Tryz.func213, Tryz.ntmps213
  go_wp2_with fail
  go_ret
  exact ⟨by rw [HB.out, HI.out]; rfl, rfl⟩

set_option maxHeartbeats 400000 in
theorem l2Has_any (v : Value) (n i k : Nat) (f : Nat → Nat → Bool) (w : World) (hx : Rep IntE w v (relOf n f)) (hn : n ≤ 60) (hi : i < n) (hk : k < n) :
    Calls Tryz.prog 221 #[v, .int .i64 i, .int .i64 k] w fun e w' => e = .returned (.bool (f i k)) ∧ w = w' := by
  obtain ⟨a, c, rfl, -, -, -, hx⟩ := hx.open
  simp only [relOf_length] at *
  obtain ⟨b, o, rfl, hbl, i0⟩ := hx.int (relOf_get hi)
  have hB := bitsTo_bit (f i) hn hk
  have hlt := bitsTo_lt (f i) n hn
  have hIB := if_bit (f i k)
  have hi' := nat_of_lt hi
  clear hx
  generalize bitsTo (f i) n = row at *
  have HB := hide hB; have HI := hide hIB
  have h0 := hlt.1
  clear hB hIB hlt
  go_enter Tryz.func221, Tryz.ntmps221
  go_wp2_with fail
  go_ret
  exact ⟨by rw [HB.out, HI.out]; rfl, rfl⟩

theorem div_pow_zero {x : Int} {n : Nat} (h0 : 0 ≤ x) (h1 : x < (2 : Int) ^ n) : x / (2 : Int) ^ n = 0 := Int.ediv_eq_zero_of_lt h0 h1

theorem relValid_1 (B n c : Nat) (a : Option Addr) (x : Int) (w : World) (hc : w.cell? ⟨B, 0, none⟩ = some (.slice a n c)) (hn : n ≤ 16) (h0 : 0 ≤ x) (h1 : x < (2 : Int) ^ n) :
    Calls Tryz.prog 153 #[.int .i64 x, .pointer (some ⟨B, 0, none⟩)] w fun e w' => e = .returned (.bool false) ∧ w = w' := by
  have hz := div_pow_zero h0 h1
  have hx0 : decide (x < 0) = false := decide_eq_false (by omega)
  clear h1
  go_enter Tryz.func153, Tryz.ntmps153
  go_wp2_with fail
  go_ret
  exact ⟨rfl, rfl⟩

set_option maxHeartbeats 400000 in
theorem indexValid (B n c : Nat) (a : Option Addr) (v : Value) (xs : List Int) (w : World) (hx : Rep IntE w v xs) (hc : w.cell? ⟨B, 0, none⟩ = some (.slice a n c)) (hn : n ≤ 16) (hr : ∀ x ∈ xs, 0 ≤ x ∧ x < (2 : Int) ^ n) :
    Calls Tryz.prog 216 #[v, .func (.func 153) #[] #[.pointer (some ⟨B, 0, none⟩)]] w fun e w' => e = .returned (.int .i64 (-1)) ∧ w = w' := by
  obtain ⟨a1, c1, rfl, hc1, hc2, hc3, hx⟩ := hx.open
  have HX := hide hx; clear hx
  have HR := hide (fun x hx => relValid_1 B n c a x w hc hn (hr x hx).1 (hr x hx).2)
  clear hr hc
  generalize hm : xs.length = m at *
  have H := hide hm; clear hm
  go_enter Tryz.func216, Tryz.ntmps216
  go_wp2_with fail
  go_loop [8] (fun i => ∃ t : Nat, t ≤ m ∧ i = .int .i64 t) (fun i => m - (intOf i).toNat)
  case atStart => exact ⟨0, Nat.zero_le _, rfl⟩
  case round =>
    obtain ⟨t, ht, rfl⟩ := hrel
    by_cases hlt : t < m
    · obtain ⟨x, hxk⟩ := get_of_lt (xs := xs) (k := t) (by rw [H.out]; exact hlt)
      obtain ⟨b, o, rfl, hbl, i0⟩ := HX.out.int hxk
      have hlt' := nat_of_lt hlt
      have HC := hide (HR.out x (List.mem_of_getElem? hxk)); clear hxk
      go_wp2_with fail
      (with_reducible refine HC.out.mono ?_); rintro e w2 ⟨rfl, rfl⟩
      go_wp2_with fail
      go_round
      case rel => exact ⟨t + 1, by omega, by go_num⟩
      case measure => simp [intOf]; omega
    · go_wp2_with fail
      go_ret
      exact ⟨rfl, rfl⟩

theorem containsValid (B n c : Nat) (a : Option Addr) (v : Value) (xs : List Int) (w : World) (hx : Rep IntE w v xs) (hc : w.cell? ⟨B, 0, none⟩ = some (.slice a n c)) (hn : n ≤ 16) (hr : ∀ x ∈ xs, 0 ≤ x ∧ x < (2 : Int) ^ n) :
    Calls Tryz.prog 152 #[v, .func (.func 153) #[] #[.pointer (some ⟨B, 0, none⟩)]] w fun e w' => e = .returned (.bool false) ∧ w = w' := by
  have HI := hide (indexValid B n c a v xs w hx hc hn hr)
  obtain ⟨a1, c1, rfl, -⟩ := hx.open
  clear hx hr hc
  go_enter Tryz.func152, Tryz.ntmps152
  go_wp2_with fail
  (with_reducible refine HI.out.mono ?_); rintro e w1 ⟨rfl, rfl⟩
  go_wp2_with fail
  go_ret
  exact ⟨rfl, rfl⟩

theorem RelValid_any (v : Value) (n : Nat) (f : Nat → Nat → Bool) (w : World) (hx : Rep IntE w v (relOf n f)) (hn : n ≤ 16) :
    Calls Tryz.prog 67 #[v] w fun e w' => e = .returned (.bool true) ∧ Below w.heap.size w w' := by
  obtain ⟨a, c, rfl, -, -, -, hx⟩ := hx.open
  simp only [relOf_length] at *
  have HB := hide (belowAlloc0 w (.cells #[.slice a n c] 25))
  have HC := hide (containsValid w.heap.size n c a (.slice a n c) (relOf n f) _ (hx.below HB.out) (by simp [go_sem]) hn (fun x hx => by
    obtain ⟨i, hi, rfl⟩ := relOf_mem hx
    exact bitsTo_lt (f i) n (by omega)))
  have hn' : (n : Int) ≤ 16 := by omega
  clear hx
  go_enter Tryz.func67, Tryz.ntmps67
  go_wp2_with fail
  (with_reducible refine HC.out.mono ?_); rintro e w1 ⟨rfl, rfl⟩
  go_wp2_with fail
  go_ret
  exact ⟨rfl, HB.out⟩

theorem areRels_any (v v' : Value) (n : Nat) (f g : Nat → Nat → Bool) (w : World) (hx : Rep IntE w v (relOf n f)) (hy : Rep IntE w v' (relOf n g)) (hn : n ≤ 16) :
    Calls Tryz.prog 70 #[v, v'] w fun e w' => e = .returned (.bool true) ∧ Below w.heap.size w w' := by
  obtain ⟨a, c, rfl, -, -, -, hx⟩ := hx.open
  obtain ⟨a', c', rfl, -, -, -, hy⟩ := hy.open
  simp only [relOf_length] at *
  have H1 := hide (RelValid_any _ n f w hx hn)
  have H2 := hide (fun w' h => RelValid_any (.slice a' n c') n g w' h hn)
  have HY := hide hy
  clear hx hy
  go_enter Tryz.func70, Tryz.ntmps70
  go_wp2_with fail
  (with_reducible refine H1.out.mono ?_); rintro e w1 ⟨rfl, hb1⟩
  have HB1 := hide hb1; clear hb1
  go_wp2_with fail
  (with_reducible refine (H2.out _ (HY.out.below HB1.out)).mono ?_); rintro e w2 ⟨rfl, hb2⟩
  go_wp2_with fail
  go_ret
  exact ⟨rfl, HB1.out.trans (hb2.mono HB1.out.size)⟩

end Go.Proofs.YtpbmlppdmdmfkaaGreatDoor

namespace Go.Proofs.YtpbmlppdmdmfkaaGreatDoor
open Go.RowKit

theorem take_rel (n k : Nat) (f : Nat → Nat → Bool) (h : k < n) : (relOf n f).take (k + 1) = (relOf n f).take k ++ [bitsTo (f k) n] := by
  rw [List.take_add_one, relOf_get h]; rfl


theorem bitUnion_any (x y : Int) (w : World) :
    Calls Tryz.prog 159 #[.int .i64 x, .int .i64 y] w fun e w' => e = .returned (.int .i64 (bits .or .i64 x y)) ∧ w = w' := by
  go_enter Tryz.func159, Tryz.ntmps159
  go_wp2_with fail
  go_ret
  exact ⟨rfl, rfl⟩

set_option maxHeartbeats 800000 in
theorem combinedUnion (v v' : Value) (n : Nat) (f g : Nat → Nat → Bool) (w : World) (hx : Rep IntE w v (relOf n f)) (hy : Rep IntE w v' (relOf n g)) (hn : n ≤ 16) :
    Calls Tryz.prog 158 #[v, v', .func (.func 159) #[] #[]] w (RetOwn IntE 3 w (relOf n (fOr f g))) := by
  have HA := hide (areRels_any v v' n f g w hx hy hn)
  obtain ⟨a, c, rfl, -, -, -, hx⟩ := hx.open
  obtain ⟨a', c', rfl, -, -, -, hy⟩ := hy.open
  simp only [relOf_length] at *
  have HX := hide hx; have HY := hide hy
  clear hx hy
  go_enter Tryz.func158, Tryz.ntmps158
  go_wp2_with fail
  (with_reducible refine HA.out.mono ?_); rintro e w0 ⟨rfl, hb0⟩
  have HB0 := hide hb0; clear hb0 HA
  go_wp2_with (at_make; refine wpList_make IntE 3 0 Tryz.infoInt rfl Tryz.underlying25 n (by decide) (by omega) rfl _ _ rfl rfl rfl ?_; intro w1 hown hgr)
  have hb1 := below_of_grown hgr
  go_loopw [18] (fun i wr => ∃ k : Nat, k ≤ n ∧ i = .int .i64 k ∧ Hid (OwnN wr w0.heap.size (.slice (some ⟨w0.heap.size, 0, none⟩) n n) ((relOf n (fOr f g)).take k ++ List.replicate (n - k) 0)) ∧ Hid (Below w0.heap.size w0 wr)) (fun i _ => n - (intOf i).toNat)
  case atStart => exact ⟨0, Nat.zero_le _, rfl, hide (by simpa using hown), hide hb1⟩
  case round =>
    obtain ⟨k, hk, rfl, HO, HB⟩ := hrel
    by_cases hlt : k < n
    · have hlt' := nat_of_lt hlt
      have hb := HB.out
      obtain ⟨b, o, rfl, hbl, i0⟩ := (HX.out.below HB0.out).int (relOf_get hlt)
      obtain ⟨b', o', rfl, hbl', j0⟩ := (HY.out.below HB0.out).int (relOf_get hlt)
      have i0 := (HB.out.cell (p := ⟨b, o + k, none⟩) hbl).trans i0
      have j0 := (HB.out.cell (p := ⟨b', o' + k, none⟩) hbl').trans j0
      have ne1 : b ≠ w0.heap.size := by omega
      have ne2 : b' ≠ w0.heap.size := by omega
      have ne3 : w0.heap.size ≠ b := by omega
      have ne4 : w0.heap.size ≠ b' := by omega
      have hg : ((relOf n (fOr f g)).take k ++ List.replicate (n - k) 0)[k]? = some 0 := by
        have := get_pad (relOf n (fOr f g)) 0 (k := k) (by rw [relOf_length]; exact hlt)
        rwa [relOf_length] at this
      obtain ⟨hgl, f0, hfr⟩ := HO.out.int hg
      have ho2 := HO.out.setInt hg (bits .or .i64 (bitsTo (f k) n) (bitsTo (g k) n))
      rw [bitsTo_or (f k) (g k) (n := n) (by omega)] at ho2
      have hset := set_pad (relOf n (fOr f g)) 0 (relOf_get (f := fOr f g) hlt)
      rw [relOf_length] at hset
      have e : ((relOf n (fOr f g)).take k ++ List.replicate (n - k) 0).set k (bitsTo (fun j => f k j || g k j) n) = (relOf n (fOr f g)).take (k + 1) ++ List.replicate (n - (k + 1)) 0 := hset
      rw [e] at ho2
      have HO2 := hide ho2
      have EQ := hide (bitsTo_or (f k) (g k) (n := n) (by omega))
      have hfz := hfr k
      clear ho2 e hset hg hb hfr
      generalize bitsTo (f k) n = rf at *
      generalize bitsTo (g k) n = rg at *
      go_wp2_with fail
      go_region_held3 (fun V => V.cell? ⟨b, o + k, none⟩ = some (.int .i64 rf) ∧ V.cell? ⟨b', o' + k, none⟩ = some (.int .i64 rg)) ((simp [go_sem, *]))
        (first
          | (go_at_call 159; (with_reducible refine (bitUnion_any _ _ _).mono ?_); rintro e u1 ⟨rfl, rfl⟩))
      all_goals
        go_wp2_with fail
        go_roundw
        case rel => exact ⟨k + 1, by omega, by go_num, hide (by have h := HO2.out.below (Below.refl _ _).drew; rw [← EQ.out] at h; exact h), hide ((HB.out.setCell (Nat.le_refl _) _).drew)⟩
        case measure => simp [intOf]; omega
    · have e : k = n := by omega
      subst e
      go_wp2_with fail
      go_ret
      have ho := HO.out
      rw [Nat.sub_self, List.replicate_zero, List.append_nil, List.take_of_length_le (by rw [relOf_length]; exact Nat.le_refl _)] at ho
      exact ⟨_, rfl, ho.mono HB0.out.size, HB0.out.trans (HB.out.mono HB0.out.size)⟩

theorem UnionRel_any (v v' : Value) (n : Nat) (f g : Nat → Nat → Bool) (w : World) (hx : Rep IntE w v (relOf n f)) (hy : Rep IntE w v' (relOf n g)) (hn : n ≤ 16) :
    Calls Tryz.prog 72 #[v, v'] w (RetOwn IntE 3 w (relOf n (fOr f g))) := by
  have HC := hide (combinedUnion v v' n f g w hx hy hn)
  clear hx hy
  go_enter Tryz.func72, Tryz.ntmps72
  go_wp2_with fail
  (with_reducible refine HC.out.mono ?_); rintro e w1 ⟨u, rfl, hu, hb1⟩
  go_wp2_with fail
  go_ret
  exact ⟨_, rfl, hu, hb1⟩

theorem bitMeet_any (x y : Int) (w : World) :
    Calls Tryz.prog 214 #[.int .i64 x, .int .i64 y] w fun e w' => e = .returned (.int .i64 (bits .and .i64 x y)) ∧ w = w' := by
  go_enter Tryz.func214, Tryz.ntmps214
  go_wp2_with fail
  go_ret
  exact ⟨rfl, rfl⟩

set_option maxHeartbeats 800000 in
theorem combinedMeet (v v' : Value) (n : Nat) (f g : Nat → Nat → Bool) (w : World) (hx : Rep IntE w v (relOf n f)) (hy : Rep IntE w v' (relOf n g)) (hn : n ≤ 16) :
    Calls Tryz.prog 158 #[v, v', .func (.func 214) #[] #[]] w (RetOwn IntE 3 w (relOf n (fAnd f g))) := by
  have HA := hide (areRels_any v v' n f g w hx hy hn)
  obtain ⟨a, c, rfl, -, -, -, hx⟩ := hx.open
  obtain ⟨a', c', rfl, -, -, -, hy⟩ := hy.open
  simp only [relOf_length] at *
  have HX := hide hx; have HY := hide hy
  clear hx hy
  go_enter Tryz.func158, Tryz.ntmps158
  go_wp2_with fail
  (with_reducible refine HA.out.mono ?_); rintro e w0 ⟨rfl, hb0⟩
  have HB0 := hide hb0; clear hb0 HA
  go_wp2_with (at_make; refine wpList_make IntE 3 0 Tryz.infoInt rfl Tryz.underlying25 n (by decide) (by omega) rfl _ _ rfl rfl rfl ?_; intro w1 hown hgr)
  have hb1 := below_of_grown hgr
  go_loopw [18] (fun i wr => ∃ k : Nat, k ≤ n ∧ i = .int .i64 k ∧ Hid (OwnN wr w0.heap.size (.slice (some ⟨w0.heap.size, 0, none⟩) n n) ((relOf n (fAnd f g)).take k ++ List.replicate (n - k) 0)) ∧ Hid (Below w0.heap.size w0 wr)) (fun i _ => n - (intOf i).toNat)
  case atStart => exact ⟨0, Nat.zero_le _, rfl, hide (by simpa using hown), hide hb1⟩
  case round =>
    obtain ⟨k, hk, rfl, HO, HB⟩ := hrel
    by_cases hlt : k < n
    · have hlt' := nat_of_lt hlt
      have hb := HB.out
      obtain ⟨b, o, rfl, hbl, i0⟩ := (HX.out.below HB0.out).int (relOf_get hlt)
      obtain ⟨b', o', rfl, hbl', j0⟩ := (HY.out.below HB0.out).int (relOf_get hlt)
      have i0 := (HB.out.cell (p := ⟨b, o + k, none⟩) hbl).trans i0
      have j0 := (HB.out.cell (p := ⟨b', o' + k, none⟩) hbl').trans j0
      have ne1 : b ≠ w0.heap.size := by omega
      have ne2 : b' ≠ w0.heap.size := by omega
      have ne3 : w0.heap.size ≠ b := by omega
      have ne4 : w0.heap.size ≠ b' := by omega
      have hg : ((relOf n (fAnd f g)).take k ++ List.replicate (n - k) 0)[k]? = some 0 := by
        have := get_pad (relOf n (fAnd f g)) 0 (k := k) (by rw [relOf_length]; exact hlt)
        rwa [relOf_length] at this
      obtain ⟨hgl, f0, hfr⟩ := HO.out.int hg
      have ho2 := HO.out.setInt hg (bits .and .i64 (bitsTo (f k) n) (bitsTo (g k) n))
      rw [bitsTo_and (f k) (g k) (n := n) (by omega)] at ho2
      have hset := set_pad (relOf n (fAnd f g)) 0 (relOf_get (f := fAnd f g) hlt)
      rw [relOf_length] at hset
      have e : ((relOf n (fAnd f g)).take k ++ List.replicate (n - k) 0).set k (bitsTo (fun j => f k j && g k j) n) = (relOf n (fAnd f g)).take (k + 1) ++ List.replicate (n - (k + 1)) 0 := hset
      rw [e] at ho2
      have HO2 := hide ho2
      have EQ := hide (bitsTo_and (f k) (g k) (n := n) (by omega))
      have hfz := hfr k
      clear ho2 e hset hg hb hfr
      generalize bitsTo (f k) n = rf at *
      generalize bitsTo (g k) n = rg at *
      go_wp2_with fail
      go_region_held3 (fun V => V.cell? ⟨b, o + k, none⟩ = some (.int .i64 rf) ∧ V.cell? ⟨b', o' + k, none⟩ = some (.int .i64 rg)) ((simp [go_sem, *]))
        (first
          | (go_at_call 214; (with_reducible refine (bitMeet_any _ _ _).mono ?_); rintro e u1 ⟨rfl, rfl⟩))
      all_goals
        go_wp2_with fail
        go_roundw
        case rel => exact ⟨k + 1, by omega, by go_num, hide (by have h := HO2.out.below (Below.refl _ _).drew; rw [← EQ.out] at h; exact h), hide ((HB.out.setCell (Nat.le_refl _) _).drew)⟩
        case measure => simp [intOf]; omega
    · have e : k = n := by omega
      subst e
      go_wp2_with fail
      go_ret
      have ho := HO.out
      rw [Nat.sub_self, List.replicate_zero, List.append_nil, List.take_of_length_le (by rw [relOf_length]; exact Nat.le_refl _)] at ho
      exact ⟨_, rfl, ho.mono HB0.out.size, HB0.out.trans (HB.out.mono HB0.out.size)⟩

theorem MeetRel_any (v v' : Value) (n : Nat) (f g : Nat → Nat → Bool) (w : World) (hx : Rep IntE w v (relOf n f)) (hy : Rep IntE w v' (relOf n g)) (hn : n ≤ 16) :
    Calls Tryz.prog 131 #[v, v'] w (RetOwn IntE 3 w (relOf n (fAnd f g))) := by
  have HC := hide (combinedMeet v v' n f g w hx hy hn)
  clear hx hy
  go_enter Tryz.func131, Tryz.ntmps131
  go_wp2_with fail
  (with_reducible refine HC.out.mono ?_); rintro e w1 ⟨u, rfl, hu, hb1⟩
  go_wp2_with fail
  go_ret
  exact ⟨_, rfl, hu, hb1⟩

end Go.Proofs.YtpbmlppdmdmfkaaGreatDoor
