/-
  clear of the rest of a slice that a call owns; a slice cut short. No condition.
-/
import Derived.Test.YtpnmphfdfadlcaaBase2
namespace Go.Proofs.Ytpnmphfdfadlcaa
open Go.RowKit

theorem zeroCells_eq {α : Type} (E : El α) (z : α) (zv : Value) (hz : zv.cells.toList = E.c z) (n : Nat) : (Builtin.zeroCells zv.cells n).toList = (List.replicate n z).flatMap E.c := by
  have h := made_eq (E := E) z zv hz n
  have hsz : zv.cells.size = E.sz := by rw [← Array.length_toList, hz, E.len]
  rw [← h]
  simp [Builtin.zeroCells, madeCells, hsz]

theorem El.take {α : Type} (E : El α) (xs : List α) (i : Nat) : (xs.flatMap E.c).take (i * E.sz) = (xs.take i).flatMap E.c := by
  induction xs generalizing i with
  | nil => simp
  | cons x xs ih =>
    cases i with
    | zero => simp
    | succ i =>
      rw [List.flatMap_cons, List.take_succ_cons, List.flatMap_cons, List.take_append, E.len, List.take_of_length_le (by rw [E.len, Nat.add_mul]; omega),
        show (i + 1) * E.sz - E.sz = i * E.sz by rw [Nat.add_mul]; omega, ih]

section
variable {α : Type} {E : El α} {T : TypeId}

/-- 's[:i]'. -/
theorem Own.cut {w : World} {base g n cap : Nat} {xs : List α} (h : Own E T w base (.slice (some ⟨g, 0, none⟩) n cap) xs) {i : Nat} (hi : i ≤ n) : Own E T w base (.slice (some ⟨g, 0, none⟩) i cap) (xs.take i) := by
  have hn := h.len
  subst hn
  unfold Own at *
  have hl : (xs.take i).length = i := by rw [List.length_take]; omega
  rcases h.2 with ⟨h1, _⟩ | ⟨g', cap', cur, h1, h2, h3, h4, h5, h6, h7⟩
  · simp at h1
  · simp only [Value.slice.injEq, Option.some.injEq, Addr.mk.injEq, and_true, true_and] at h1
    obtain ⟨rfl, rfl⟩ := h1
    rw [hl]
    refine ⟨by rw [E.length, hl], .inr ⟨g, cap, cur, rfl, h2, h3, by omega, h5, h6, ?_⟩⟩
    rw [← E.take, ← h7, List.take_take, Nat.min_eq_left (Nat.mul_le_mul_right _ hi)]

/-- 'clear(s[i:])'. -/
theorem run_clear {P : Program} {w : World} {base g n cap i c' : Nat} {xs : List α} (z : α) {zv : Value} {bytes : Nat} (hinfo : (P.info? T).map (fun i => (i.zero, i.size, i.bytes)) = some (some zv, E.sz, bytes)) (hz : zv.cells.toList = E.c z)
    {t ty : TypeId} (h1 : P.underlying t = some (.slice T)) (hown : Own E T w base (.slice (some ⟨g, 0, none⟩) n cap) xs) (hi : i < n) :
    ∃ w', (Builtin.clear_ #[t] ty #[.slice (some ⟨g, i * E.sz, none⟩) (n - i) c']).run P w = .ok (.tuple #[]) w' ∧ Own E T w' base (.slice (some ⟨g, 0, none⟩) n cap) (xs.take i ++ List.replicate (n - i) z) ∧ w.grownBy w' (some g) := by
  have hn := hown.len
  subst hn
  obtain ⟨it, hi1, hz0, hz1, hz2⟩ := info_parts hinfo
  rcases hown.2 with ⟨h2, _⟩ | ⟨g', cap', cur, h2, hb, hg, hnc, hcm, hcs, htake⟩
  · simp at h2
  · simp only [Value.slice.injEq, Option.some.injEq, Addr.mk.injEq, and_true, true_and] at h2
    obtain ⟨rfl, rfl⟩ := h2
    have hzl : (Builtin.zeroCells zv.cells (xs.length - i)).toList = (List.replicate (xs.length - i) z).flatMap E.c := zeroCells_eq E z zv hz _
    have hlen : ((List.replicate (xs.length - i) z).flatMap E.c).length = (xs.length - i) * E.sz := by rw [E.length]; simp
    have hmul : i * E.sz + (xs.length - i) * E.sz = xs.length * E.sz := by rw [← Nat.add_mul]; congr 1; omega
    have hmul2 : xs.length * E.sz ≤ cap * E.sz := Nat.mul_le_mul_right _ hnc
    have hst := run_storeCells_at P g (i * E.sz) T ((List.replicate (xs.length - i) z).flatMap E.c) 0 cur w hg (by rw [hlen, hcs]; omega) (fun v hv => by
      rw [List.mem_flatMap] at hv
      obtain ⟨x, _, hx⟩ := hv
      exact E.one x v hx)
    simp only [Nat.add_zero] at hst
    refine ⟨w.setRow g (cur.toList.take (i * E.sz) ++ (List.replicate (xs.length - i) z).flatMap E.c ++ cur.toList.drop (i * E.sz + ((List.replicate (xs.length - i) z).flatMap E.c).length)).toArray, ?_, ?_, ⟨rfl, rfl, rfl, by simp, fun k _ hk => setRow_other w g k _ (fun e => hk (by simp [e]))⟩⟩
    · have hne : xs.length - i ≠ 0 := by omega
      obtain ⟨m, hm⟩ := Nat.exists_eq_succ_of_ne_zero hne
      rw [hm] at hst hzl ⊢
      simp only [Nat.succ_eq_add_one] at hst hzl ⊢
      simp [Builtin.clear_, run_underlying h1, zeroValue, typeInfo, hi1, hz0, hzl, hst]
    · have hl2 : (xs.take i ++ List.replicate (xs.length - i) z).length = xs.length := by simp; omega
      unfold Own
      rw [hl2]
      refine ⟨by rw [E.length, hl2], .inr ⟨g, cap, _, rfl, hb, setRow_heap w g cur _ T _ hg, hnc, hcm, ?_, ?_⟩⟩
      · simp only [List.size_toArray, List.length_append, List.length_take, List.length_drop, Array.length_toList, hlen, hcs]
        omega
      · rw [List.flatMap_append, ← E.take, ← htake, List.take_take, Nat.min_eq_left (by omega)]
        rw [show xs.length * E.sz = (cur.toList.take (i * E.sz) ++ (List.replicate (xs.length - i) z).flatMap E.c).length by
          have hcl : cur.toList.length = cap * E.sz := by rw [Array.length_toList, hcs]
          rw [List.length_append, hlen, List.length_take, hcl]; omega]
        exact List.take_left

end

/-- How far a deletion in place has come: the first i are what is kept of the first j, from j on nothing has turned. -/
structure DelInv {α : Type} (f : α → Bool) (xs L : List α) (i j : Nat) : Prop where
  take : L.take i = (xs.take j).filter fun x => !f x
  drop : L.drop j = xs.drop j

theorem filter_all {α : Type} {f : α → Bool} {xs : List α} (h : ∀ x ∈ xs, f x = true) : xs.filter f = xs := List.filter_eq_self.2 h

theorem del_start {α : Type} {f : α → Bool} {xs : List α} {t : Nat} {x : α} (hx : xs[t]? = some x) (hf : f x = true) (hno : ∀ y ∈ xs.take t, f y = false) : DelInv f xs xs t (t + 1) := by
  refine ⟨?_, rfl⟩
  rw [List.take_add_one, hx, List.filter_append, filter_all (fun y hy => by rw [hno y hy]; rfl)]
  simp [hf]

section
variable {α : Type} {f : α → Bool} {xs L : List α} {i j : Nat}
theorem DelInv.get (h : DelInv f xs L i j) {x : α} (hx : xs[j]? = some x) : L[j]? = some x := by
  have h1 : (L.drop j)[0]? = (xs.drop j)[0]? := by rw [h.drop]
  rw [List.getElem?_drop, List.getElem?_drop, Nat.add_zero] at h1
  rw [h1, hx]
theorem DelInv.keep (h : DelInv f xs L i j) (hij : i < j) {x : α} (hx : xs[j]? = some x) (hf : f x = false) : DelInv f xs (L.set i x) (i + 1) (j + 1) := by
  have hL := h.get hx
  have hjl := (List.getElem?_eq_some_iff.1 hL).1
  refine ⟨?_, ?_⟩
  · rw [List.take_add_one, List.take_add_one, hx, List.filter_append, ← h.take, List.getElem?_set, if_pos rfl, if_pos (by omega)]
    rw [List.take_set_of_le (Nat.le_refl _)]
    simp [hf]
  · rw [List.drop_set_of_lt (by omega)]
    have h1 : (L.drop j).drop 1 = (xs.drop j).drop 1 := by rw [h.drop]
    simpa [List.drop_drop] using h1
theorem DelInv.skip (h : DelInv f xs L i j) {x : α} (hx : xs[j]? = some x) (hf : f x = true) : DelInv f xs L i (j + 1) := by
  refine ⟨?_, ?_⟩
  · rw [List.take_add_one, hx, List.filter_append, h.take]; simp [hf]
  · have h1 : (L.drop j).drop 1 = (xs.drop j).drop 1 := by rw [h.drop]
    simpa [List.drop_drop] using h1
theorem DelInv.done (h : DelInv f xs L i j) (hj : xs.length ≤ j) : L.take i = xs.filter fun x => !f x := by
  rw [h.take, List.take_of_length_le hj]
end

theorem grown_of_below {w w' : World} (h : Below w.heap.size w w') (row : Option Nat) : w.grownBy w' row := ⟨h.os, h.tape, h.output, h.size, fun k hk _ => h.block k hk⟩
theorem grown_trans {w w' w'' : World} {row : Option Nat} (h : w.grownBy w' row) (k : w'.grownBy w'' row) : w.grownBy w'' row :=
  ⟨k.os.trans h.os, k.tape.trans h.tape, k.output.trans h.output, Nat.le_trans h.size k.size, fun q hq hne => (k.block q (Nat.lt_of_lt_of_le hq h.size) hne).trans (h.block q hq hne)⟩

/-- What a deletion in place hands back. -/
def DelPost {α : Type} (E : El α) (T : TypeId) (w : World) (base : Nat) (v : Value) (ys : List α) (e : Ending) (w' : World) : Prop := ∃ v', e = .returned v' ∧ Own E T w' base v' ys ∧ w.grownBy w' v.ownBlock ∧ v'.ownBlock = v.ownBlock

theorem wpList_clear {α : Type} (E : El α) {P : Program} {w : World} {ops : Array Oper} {rest : List Oper} {o : Oper} {a : Act} {Q : Exit → Act → World → Prop}
    (T : TypeId) (z : α) {zv : Value} {bytes : Nat} (hinfo : (P.info? T).map (fun i => (i.zero, i.size, i.bytes)) = some (some zv, E.sz, bytes)) (hz : zv.cells.toList = E.c z) {t : TypeId} (h1 : P.underlying t = some (.slice T))
    (base g n cap i c' : Nat) (xs : List α) (hown : Own E T w base (.slice (some ⟨g, 0, none⟩) n cap) xs) (hi : i < n) (hg : o.guard = none) (y : Operand)
    (hop : o.op = .call { callee := .builtin .clear, args := #[y], argTypes := #[t] }) (hy : a.eval y = .slice (some ⟨g, i * E.sz, none⟩) (n - i) c')
    (hK : ∀ w', Own E T w' base (.slice (some ⟨g, 0, none⟩) n cap) (xs.take i ++ List.replicate (n - i) z) → w.grownBy w' (some g) → wpList P ops Q rest (a.put o.dst (.tuple #[])) w') :
    wpList P ops Q (o :: rest) a w := by
  refine wpList_plain hg fun K hK' => ?_
  obtain ⟨w', hrun, r1, r2⟩ := run_clear (ty := o.type) (c' := c') z hinfo hz h1 hown hi
  unfold Oper.wp
  simp [execOp, hop, resolve, invoke, builtin, hy, hrun, Result.andThen]
  exact hK' _ _ (hK w' r1 r2)

/-- Row k is worked on in place, cut short, and laid back. -/
theorem Own2U.rowput {α : Type} {E : El α} {T1 T2 : TypeId} {us : List Slc} {w w' : World} {base g n cap : Nat} {p : List (List α)} (h : Own2U E T1 T2 us w base (.slice (some ⟨g, 0, none⟩) n cap) p) {k : Nat} {s s' : Slc} (hs : us[k]? = some s) {r' : List α}
    (ho : Own E T2 w' base s'.v r') (hg : w.grownBy w' s.v.ownBlock) (hb : s'.v.ownBlock = s.v.ownBlock) : Own2U E T1 T2 (us.set k s') (w'.setCell ⟨g, k, none⟩ s'.v) base (.slice (some ⟨g, 0, none⟩) n cap) (p.set k r') := by
  obtain ⟨h1, h2, h3, h4, h5⟩ := h
  have hk := (List.getElem?_eq_some_iff.1 hs).1
  have h2' := h2.grown hg (.inr (fun e => h5 k s hs g (by rw [← e]; rfl) rfl))
  have h2s := h2'.set (i := k) (j := 0) s' (u := s'.v) (by decide) hs rfl
  simp only [SlcE, Nat.mul_one, Nat.add_zero] at h2s
  have hgs : w'.grownBy (w'.setCell ⟨g, k, none⟩ s'.v) (some g) := grown_set (World.grownBy.refl _ _) _ _
  have split : ∀ (i : Nat) (u : Slc), (us.set k s')[i]? = some u → (i = k ∧ u = s') ∨ (i ≠ k ∧ us[i]? = some u) := fun i u hi => by
    rw [List.getElem?_set] at hi
    by_cases e : k = i
    · subst e; rw [if_pos rfl, if_pos hk] at hi; simp at hi; exact .inl ⟨rfl, hi.symm⟩
    · rw [if_neg e] at hi; exact .inr ⟨fun h => e h.symm, hi⟩
  have blk : ∀ (i : Nat) (u : Slc), (us.set k s')[i]? = some u → ∃ u0 : Slc, us[i]? = some u0 ∧ u.v.ownBlock = u0.v.ownBlock := fun i u hi => by
    rcases split i u hi with ⟨e1, e2⟩ | ⟨_, hi'⟩
    · exact ⟨s, by rw [e1]; exact hs, by rw [e2]; exact hb⟩
    · exact ⟨u, hi', rfl⟩
  refine ⟨by simp [h1], h2s, ?_, ?_, ?_⟩
  · intro i u r hi hr
    rcases split i u hi with ⟨e1, e2⟩ | ⟨hne, hi'⟩
    · rw [e1, List.getElem?_set, if_pos rfl, if_pos (by omega)] at hr
      simp at hr; subst hr
      rw [e2]
      refine ho.grown hgs ?_
      rcases hq : s'.v.ownBlock with _ | q
      · exact .inl rfl
      · refine .inr (fun e => ?_)
        rw [hb] at hq
        exact h5 k s hs q hq (by rw [e]; rfl)
    · rw [List.getElem?_set, if_neg (fun e => hne e.symm)] at hr
      refine ((h3 i u r hi' hr).grown hg ?_).grown hgs ?_
      · rcases hq : u.v.ownBlock with _ | q
        · exact .inl rfl
        · exact .inr (fun e => h4 i k u s hi' hs hne q hq e.symm)
      · rcases hq : u.v.ownBlock with _ | q
        · exact .inl rfl
        · exact .inr (fun e => h5 i u hi' q hq (by rw [e]; rfl))
  · intro i j u u' hi hj hij q hq hq'
    obtain ⟨u0, hu0, e0⟩ := blk i u hi
    obtain ⟨u1, hu1, e1⟩ := blk j u' hj
    exact h4 i j u0 u1 hu0 hu1 hij q (by rw [← e0]; exact hq) (by rw [← e1]; exact hq')
  · intro i u hi q hq
    obtain ⟨u0, hu0, e0⟩ := blk i u hi
    exact h5 i u0 hu0 q (by rw [← e0]; exact hq)

end Go.Proofs.Ytpnmphfdfadlcaa
