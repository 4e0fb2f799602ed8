/-
  More words for the walks: a whole slice appended, a row appended to a slice of rows. No condition.
-/
import Derived.Test.YtpnmphfdfadlcaaP3
namespace Go.Proofs.Ytpnmphfdfadlcaa
open Go.RowKit

theorem run_append_none {P : Program} {w : World} {base : Nat} {t ty e : TypeId} {i : TypeInfo} {size : Nat} (ht : P.underlying t = some (.slice e)) (hi : P.info? e = some i)
    {v : Value} {n c : Nat} {xs : List Value} (hown : w.ownsRow base e size v n xs) : (Builtin.append_ #[t, t] ty #[v, .slice none 0 c]).run P w = .ok v w := by
  rcases hown.2 with ⟨rfl, rfl⟩ | ⟨g, cap, cur, rfl, _, _, hnc, _⟩
  · simp [Builtin.append_, run_underlying ht, sizeOf, typeInfo, hi, Builtin.lenOf, Builtin.firstCells]
  · simp [Builtin.append_, run_underlying ht, sizeOf, typeInfo, hi, Builtin.lenOf, Builtin.firstCells, hnc, storeCells]

/-- 'append(s, ys...)' on a slice that the call made. -/
theorem wpList_appS {α : Type} (E : El α) {P : Program} {w : World} {ops : Array Oper} {rest : List Oper} {o : Oper} {a : Act} {Q : Exit → Act → World → Prop}
    (T : TypeId) {zv : Value} {bytes : Nat} (hinfo : (P.info? T).map (fun i => (i.zero, i.size, i.bytes)) = some (some zv, E.sz, bytes)) (hz : zv.cells.size = E.sz) {t : TypeId} (h1 : P.underlying t = some (.slice T))
    (base : Nat) (v : Value) (xs ys : List α) (u : Value) (hown : Own E T w base v xs) (hrep : Rep E w u ys) (hby : bytes ≤ 256) (hn : xs.length + ys.length ≤ 68719476736) (hbase : base ≤ w.heap.size)
    (hg : o.guard = none) (s y : Operand) (hop : o.op = .call { callee := .builtin .append, args := #[s, y], argTypes := #[t, t] })
    (hs : a.eval s = v) (hy : a.eval y = u)
    (hK : ∀ v' w', Own E T w' base v' (xs ++ ys) → w.grownBy w' v.ownBlock → wpList P ops Q rest (a.put o.dst v') w') :
    wpList P ops Q (o :: rest) a w := by
  obtain ⟨it, hi, hz0, hz1, hz2⟩ := info_parts hinfo
  obtain ⟨ad, c, rfl, hc1, hc2, hcell⟩ := hrep
  cases ad with
  | none =>
    have hys : ys = [] := by
      cases ys with
      | nil => rfl
      | cons y ys => obtain ⟨b, o, hb, _⟩ := hcell 0 y rfl; cases hb
    subst hys
    refine wpList_plain hg fun K hK' => ?_
    have hrun := run_append_none (P := P) (w := w) (ty := o.type) (c := c) h1 hi hown
    unfold Oper.wp
    simp [execOp, hop, resolve, invoke, builtin, hs, hy, hrun, Result.andThen]
    exact hK' _ _ (hK _ _ (by simpa using hown) (World.grownBy.refl _ _))
  | some ad =>
    refine wpList_append_own w hg s y t hop base T it zv E.sz bytes h1 hi hz0 hz1 hz2 hz E.pos v xs.length _ hs hown ad ys.length c (ys.flatMap E.c) hy (E.length ys) ?_ ?_ (by unfold maxLen; omega) ?_ hbase ?_
    · intro j u hu
      have hpos := E.pos
      have hj : j = j / E.sz * E.sz + j % E.sz := by rw [Nat.mul_comm]; exact (Nat.div_add_mod j E.sz).symm
      have hm : j % E.sz < E.sz := Nat.mod_lt _ hpos
      have hu2 := hu
      rw [hj, E.get ys _ _ hm] at hu2
      cases hx : ys[j / E.sz]? with
      | none => rw [hx] at hu2; cases hu2
      | some x =>
        rw [hx] at hu2
        obtain ⟨b, o, hb, h⟩ := hcell _ x hx
        simp only [Option.some.injEq] at hb
        subst hb
        have hc := h (j % E.sz) u hu2
        rw [Addr.add_lit, hj, ← Nat.add_assoc]
        exact hc
    · intro u hu
      rw [List.mem_flatMap] at hu
      obtain ⟨x, _, hx⟩ := hu
      exact E.one x u hx
    · have := Nat.mul_le_mul (show xs.length + ys.length ≤ 68719476736 from hn) hby
      omega
    · intro v' w' h2 h3 _
      refine hK v' w' ?_ h3
      unfold Own
      simpa [List.flatMap_append] using h2

/-- Blocks of two element types are two blocks. -/
theorem own_ne {α β : Type} {E : El α} {F : El β} {T U : TypeId} (hT : T ≠ U) {w : World} {base base' : Nat} {v u : Value} {xs : List α} {ys : List β} (h : Own E T w base v xs) (k : Own F U w base' u ys) : ∀ q, u.ownBlock = some q → v.ownBlock ≠ some q := by
  intro q hq hv
  rcases h.2 with ⟨rfl, _⟩ | ⟨g, cap, cur, rfl, _, hg, _⟩
  · simp [Value.ownBlock] at hv
  · rcases k.2 with ⟨rfl, _⟩ | ⟨g', cap', cur', rfl, _, hg', _⟩
    · simp [Value.ownBlock] at hq
    · simp [Value.ownBlock] at hq hv
      subst hq
      subst hv
      rw [hg] at hg'
      simp at hg'
      exact hT hg'.2

/-- A row of the call's own is appended. -/
theorem Own2U.app {α : Type} {E : El α} {T1 T2 : TypeId} (hT : T1 ≠ T2) {us : List Slc} {w w1 w2 : World} {base : Nat} {v v' : Value} {p : List (List α)} (h : Own2U E T1 T2 us w base v p) (hb : Below w.heap.size w w1) (hbase : base ≤ w.heap.size) {r : List α} {s : Slc}
    (hu : Own E T2 w1 w.heap.size s.v r) (h2'' : Own SlcE T1 w2 base v' (us ++ [s])) (hg : w1.grownBy w2 v.ownBlock) : Own2 E T1 T2 w2 base v' (p ++ [r]) := by
  obtain ⟨h1, h2, h3, h4, h5⟩ := h
  have h2' := h2.below hb
  have hnew : ∀ q, s.v.ownBlock = some q → w.heap.size ≤ q := fun q hq => (World.ownsRow.lt hu q hq).1
  have hold : ∀ (i : Nat) (u' : Slc), us[i]? = some u' → ∀ q, u'.v.ownBlock = some q → q < w.heap.size := fun i u' hi q hq => by
    obtain ⟨r', hr'⟩ := get_of_lt (xs := p) (k := i) (by have := (List.getElem?_eq_some_iff.1 hi).1; omega)
    exact (World.ownsRow.lt (h3 i u' r' hi hr') q hq).2
  have split : ∀ (i : Nat) (u' : Slc), (us ++ [s])[i]? = some u' → (i = us.length ∧ u' = s) ∨ (i < us.length ∧ us[i]? = some u') := fun i u' hi => by
    by_cases hlt : i < us.length
    · rw [List.getElem?_append_left hlt] at hi; exact .inr ⟨hlt, hi⟩
    · rw [List.getElem?_append_right (by omega)] at hi
      have : i - us.length = 0 := by
        rcases Nat.eq_zero_or_pos (i - us.length) with h | h
        · exact h
        · rw [List.getElem?_eq_none (by simp; omega)] at hi; cases hi
      rw [this] at hi; simp at hi
      exact .inl ⟨by omega, hi.symm⟩
  have hus : Own E T2 w2 base s.v r := (hu.mono hbase).grown hg (by
    rcases hq : s.v.ownBlock with _ | q
    · exact .inl rfl
    · exact .inr (fun e => own_ne hT h2' hu q hq e.symm))
  have hrows : ∀ (i : Nat) (u : Slc) (r' : List α), us[i]? = some u → p[i]? = some r' → Own E T2 w2 base u.v r' := fun i u r' hi hr' =>
    ((h3 i u r' hi hr').below hb).grown hg (by
      rcases hq : u.v.ownBlock with _ | q
      · exact .inl rfl
      · exact .inr (fun e => h5 i u hi q hq e.symm))
  refine ⟨us ++ [s], by simp [h1], h2'', ?_, ?_, ?_⟩
  · intro i u r' hi hr'
    rcases split i u hi with ⟨e1, e2⟩ | ⟨hlt, hi'⟩
    · rw [e1, List.getElem?_append_right (by omega), h1, Nat.sub_self] at hr'
      simp at hr'
      rw [e2, ← hr']; exact hus
    · rw [List.getElem?_append_left (by omega)] at hr'
      exact hrows i u r' hi' hr'
  · intro i j u u' hi hj hij q hq hq'
    rcases split i u hi with ⟨e1, e2⟩ | ⟨hlt, hi'⟩
    · rcases split j u' hj with ⟨e3, e4⟩ | ⟨hlt', hj'⟩
      · omega
      · rw [e2] at hq; have a1 := hnew q hq; have a2 := hold j u' hj' q hq'; omega
    · rcases split j u' hj with ⟨e3, e4⟩ | ⟨hlt', hj'⟩
      · rw [e4] at hq'; have a1 := hnew q hq'; have a2 := hold i u hi' q hq; omega
      · exact h4 i j u u' hi' hj' hij q hq hq'
  · intro i u hi q hq
    rcases split i u hi with ⟨e1, e2⟩ | ⟨hlt, hi'⟩
    · rw [e2] at hq; exact own_ne hT h2'' hus q hq
    · obtain ⟨r', hr'⟩ := get_of_lt (xs := p) (k := i) (by omega)
      exact own_ne hT h2'' (hrows i u r' hi' hr') q hq

theorem Own2.nil {α : Type} {E : El α} (T1 T2 : TypeId) (w : World) (base : Nat) : Own2 E T1 T2 w base (.slice none 0 0) [] :=
  ⟨[], rfl, Own.nil _ _ _, fun i u r h => by simp at h, fun i j u u' h => by simp at h, fun i u h => by simp at h⟩

theorem Own2.empty {α : Type} {E : El α} (T1 T2 : TypeId) (w : World) {base : Nat} (hb : base ≤ w.heap.size) : Own2 E T1 T2 (w.alloc (.cells #[] T1)) base (.slice (some ⟨w.heap.size, 0, none⟩) 0 0) [] :=
  ⟨[], rfl, Own.empty _ _ hb, fun i u r h => by simp at h, fun i j u u' h => by simp at h, fun i u h => by simp at h⟩

theorem Own2.mono {α : Type} {E : El α} {T1 T2 : TypeId} {w : World} {base base' : Nat} {v : Value} {p : List (List α)} (h : Own2 E T1 T2 w base v p) (hb : base' ≤ base) : Own2 E T1 T2 w base' v p := by
  obtain ⟨us, h1, h2, h3, h4, h5⟩ := h
  exact ⟨us, h1, h2.mono hb, fun i u r hu hr => (h3 i u r hu hr).mono hb, h4, h5⟩

/-- What lies wholly below the blocks that were written. (w0: the world in which it was made.) -/
theorem Own2.outLo {α : Type} {E : El α} {T1 T2 : TypeId} {lo hi : Nat} {w w' w0 : World} {base : Nat} {v : Value} {p : List (List α)} (h0 : Own2 E T1 T2 w0 base v p) (hb : Below w0.heap.size w0 w)
    (h : Outside lo hi w w') (hlo : w0.heap.size ≤ lo) : Own2 E T1 T2 w' base v p := by
  obtain ⟨us, hU, hlt⟩ := h0.told
  obtain ⟨h1, h2, h3, h4, h5⟩ := hU.below hb
  refine ⟨us, h1, h.own h2 (fun q hq => .inl (by have := (World.ownsRow.lt hU.2.1 q hq).2; omega)), fun i u r hu hr => h.own (h3 i u r hu hr) (fun q hq => .inl (by have := (hlt i u hu q hq).2; omega)), h4, h5⟩

/-- What lies wholly above them. -/
theorem Own2.outHi {α : Type} {E : El α} {T1 T2 : TypeId} {lo hi : Nat} {w w' : World} {base : Nat} {v : Value} {p : List (List α)} (h0 : Own2 E T1 T2 w base v p)
    (h : Outside lo hi w w') (hhi : hi ≤ base) : Own2 E T1 T2 w' base v p := by
  obtain ⟨us, hU, hlt⟩ := h0.told
  obtain ⟨h1, h2, h3, h4, h5⟩ := hU
  refine ⟨us, h1, h.own h2 (fun q hq => .inr (by have := (World.ownsRow.lt h2 q hq).1; omega)), fun i u r hu hr => h.own (h3 i u r hu hr) (fun q hq => .inr (by have := (hlt i u hu q hq).1; omega)), h4, h5⟩

end Go.Proofs.Ytpnmphfdfadlcaa
