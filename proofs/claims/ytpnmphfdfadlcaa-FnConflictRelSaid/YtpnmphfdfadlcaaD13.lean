/-
  Rows of a program that grow in place. No condition.
-/
import Derived.Test.YtpnmphfdfadlcaaD12
import Derived.Test.YtpnmphfdfadlcaaE1
import Derived.Maps.AppendAt
namespace Go.Proofs.Ytpnmphfdfadlcaa
open Go.RowKit

/-- A row that was appended to is laid back: in its own block, or in a new one. -/
theorem Own2U.rowput2 {α : Type} {E : El α} {T1 T2 : TypeId} {us : List Slc} {w w' : World} {base g n cap : Nat} {p : List (List α)} (h : Own2U E T1 T2 us w base (.slice (some ⟨g, 0, none⟩) n cap) p) {k : Nat} {s s' : Slc} (hs : us[k]? = some s) {r' : List α}
    (ho : Own E T2 w' base s'.v r') (hg : w.grownBy w' s.v.ownBlock) (hb : s'.v.ownBlock = s.v.ownBlock ∨ ∃ q, s'.v.ownBlock = some q ∧ w.heap.size ≤ q) : Own2U E T1 T2 (us.set k s') (w'.setCell ⟨g, k, none⟩ s'.v) base (.slice (some ⟨g, 0, none⟩) n cap) (p.set k r') := by
  obtain ⟨h1, h2, h3, h4, h5⟩ := h
  have hk := (List.getElem?_eq_some_iff.1 hs).1
  have hglt := (World.ownsRow.lt h2 g rfl).2
  have h2' := h2.grown hg (.inr (fun e => h5 k s hs g (by rw [← e]; rfl) rfl))
  have h2s := h2'.set (i := k) (j := 0) s' (u := s'.v) (by decide) hs rfl
  simp only [SlcE, Nat.mul_one, Nat.add_zero] at h2s
  have hgs : w'.grownBy (w'.setCell ⟨g, k, none⟩ s'.v) (some g) := grown_set (World.grownBy.refl _ _) _ _
  have hlt : ∀ (i : Nat) (u : Slc), us[i]? = some u → ∀ q, u.v.ownBlock = some q → q < w.heap.size := fun i u hi q hq => by
    obtain ⟨r, hr⟩ := get_of_lt (xs := p) (k := i) (by have := (List.getElem?_eq_some_iff.1 hi).1; omega)
    exact (World.ownsRow.lt (h3 i u r hi hr) q hq).2
  have hs5 : ∀ q, s'.v.ownBlock = some q → q ≠ g := fun q hq e => by
    subst e
    rcases hb with hb | ⟨q', h6, h7⟩
    · exact h5 k s hs q (by rw [← hb]; exact hq) rfl
    · rw [h6] at hq; simp at hq; omega
  have hs4 : ∀ (i : Nat) (u : Slc), us[i]? = some u → i ≠ k → ∀ q, u.v.ownBlock = some q → s'.v.ownBlock ≠ some q := fun i u hi hne q hq hq' => by
    rcases hb with hb | ⟨q', h6, h7⟩
    · exact h4 i k u s hi hs hne q hq (by rw [← hb]; exact hq')
    · rw [h6] at hq'; simp at hq'; have := hlt i u hi q hq; omega
  have split : ∀ (i : Nat) (u : Slc), (us.set k s')[i]? = some u → (i = k ∧ u = s') ∨ (i ≠ k ∧ us[i]? = some u) := fun i u hi => by
    rw [List.getElem?_set] at hi
    by_cases e : k = i
    · subst e; rw [if_pos rfl, if_pos hk] at hi; simp at hi; exact .inl ⟨rfl, hi.symm⟩
    · rw [if_neg e] at hi; exact .inr ⟨fun h => e h.symm, hi⟩
  refine ⟨by simp [h1], h2s, ?_, ?_, ?_⟩
  · intro i u r hi hr
    rcases split i u hi with ⟨e1, e2⟩ | ⟨hne, hi'⟩
    · rw [e1, List.getElem?_set, if_pos rfl, if_pos (by omega)] at hr
      simp at hr; subst hr
      rw [e2]
      refine ho.grown hgs ?_
      rcases hq : s'.v.ownBlock with _ | q
      · exact .inl rfl
      · exact .inr (fun e => hs5 q hq (by simpa using e))
    · rw [List.getElem?_set, if_neg (fun e => hne e.symm)] at hr
      refine ((h3 i u r hi' hr).grown hg ?_).grown hgs ?_
      · rcases hq : u.v.ownBlock with _ | q
        · exact .inl rfl
        · exact .inr (fun e => h4 i k u s hi' hs hne q hq e.symm)
      · rcases hq : u.v.ownBlock with _ | q
        · exact .inl rfl
        · exact .inr (fun e => h5 i u hi' q hq (by rw [e]; rfl))
  · intro i j u u' hi hj hij q hq hq'
    rcases split i u hi with ⟨e1, e2⟩ | ⟨hne, hi'⟩
    · rcases split j u' hj with ⟨e3, e4⟩ | ⟨hne', hj'⟩
      · omega
      · rw [e2] at hq; exact hs4 j u' hj' hne' q hq' hq
    · rcases split j u' hj with ⟨e3, e4⟩ | ⟨hne', hj'⟩
      · rw [e4] at hq'; exact hs4 i u hi' hne q hq hq'
      · exact h4 i j u u' hi' hj' hij q hq hq'
  · intro i u hi q hq hq'
    rcases split i u hi with ⟨e1, e2⟩ | ⟨hne, hi'⟩
    · rw [e2] at hq; exact hs5 q hq (by simp [Value.ownBlock] at hq'; exact hq'.symm)
    · exact h5 i u hi' q hq hq'

/-- 'append(s, x)' of one element, and where the result lies. -/
theorem wpList_appAt {α : Type} (E : El α) {P : Program} {w : World} {ops : Array Oper} {rest : List Oper} {o : Oper} {a : Act} {Q : Exit → Act → World → Prop}
    (T : TypeId) {zv : Value} {bytes : Nat} (hinfo : (P.info? T).map (fun i => (i.zero, i.size, i.bytes)) = some (some zv, E.sz, bytes)) (hz : zv.cells.size = E.sz) {t : TypeId} (h1 : P.underlying t = some (.slice T))
    (base : Nat) (v : Value) (xs : List α) (x : α) (hown : Own E T w base v xs) (hby : bytes ≤ 256) (hn : xs.length ≤ 68719476736) (hbase : base ≤ w.heap.size)
    (hg : o.guard = none) (s y : Operand) (hop : o.op = .call { callee := .builtin .append, args := #[s, y], argTypes := #[t, t] })
    (hs : a.eval s = v) (b off c : Nat) (hy : a.eval y = .slice (some ⟨b, off, none⟩) 1 c) (hnews : ∀ j u, (E.c x)[j]? = some u → w.cell? ⟨b, off + j, none⟩ = some u)
    (hK : ∀ v' w', Own E T w' base v' (xs ++ [x]) → w.grownBy w' v.ownBlock → (v'.ownBlock = v.ownBlock ∨ ∃ q, v'.ownBlock = some q ∧ w.heap.size ≤ q) → wpList P ops Q rest (a.put o.dst v') w') :
    wpList P ops Q (o :: rest) a w := by
  obtain ⟨it, hi, hz0, hz1, hz2⟩ := info_parts hinfo
  refine wpList_append_own_at w hg s y t hop base T it zv E.sz bytes h1 hi hz0 hz1 hz2 hz E.pos v xs.length _ hs hown ⟨b, off, none⟩ 1 c (E.c x) hy (by rw [E.len, Nat.one_mul]) ?_ (E.one x) (by unfold maxLen; omega) ?_ hbase ?_
  · intro j u hu
    have hadd : (⟨b, off, none⟩ : Addr).add j = ⟨b, off + j, none⟩ := by unfold Addr.add; split <;> simp_all
    rw [hadd]
    exact hnews j u hu
  · have := Nat.mul_le_mul (show xs.length + 1 ≤ 68719476737 by omega) hby
    omega
  · intro v' w' h2 h3 _ h5
    refine hK v' w' ?_ h3 ?_
    · unfold Own
      simpa [List.flatMap_append] using h2
    · rcases h5 with h5 | h5
      · exact .inl h5
      · exact .inr ⟨_, h5, Nat.le_refl _⟩

/-- The same, at a step of a region that draws. -/
theorem step_appAt {α : Type} (E : El α) {P : Program} {w : World} {ops : Array Oper} {o : Oper} {a : Act} {K : Act → World → Prop} {Q : Exit → Act → World → Prop} {F : Prop}
    (T : TypeId) {zv : Value} {bytes : Nat} (hinfo : (P.info? T).map (fun i => (i.zero, i.size, i.bytes)) = some (some zv, E.sz, bytes)) (hz : zv.cells.size = E.sz) {t : TypeId} (h1 : P.underlying t = some (.slice T))
    (base : Nat) (v : Value) (xs : List α) (x : α) (hown : Own E T w base v xs) (hby : bytes ≤ 256) (hn : xs.length ≤ 68719476736) (hbase : base ≤ w.heap.size)
    (hg : o.guard = none) (s y : Operand) (hop : o.op = .call { callee := .builtin .append, args := #[s, y], argTypes := #[t, t] })
    (hs : a.eval s = v) (b off c : Nat) (hy : a.eval y = .slice (some ⟨b, off, none⟩) 1 c) (hnews : ∀ j u, (E.c x)[j]? = some u → w.cell? ⟨b, off + j, none⟩ = some u)
    (hK : ∀ (s' : Slc) w', Own E T w' base s'.v (xs ++ [x]) → w.grownBy w' v.ownBlock → (s'.v.ownBlock = v.ownBlock ∨ ∃ q, s'.v.ownBlock = some q ∧ w.heap.size ≤ q) → K (a.put o.dst (.slice s'.a s'.n s'.cap)) w') :
    if Region.wanted o (yielded ops a.tmps) = true then Oper.wp P o a w K Q else F := by
  obtain ⟨it, hi, hz0, hz1, hz2⟩ := info_parts hinfo
  refine step_append_lies w hg s y t hop base T it zv E.sz bytes h1 hi hz0 hz1 hz2 hz E.pos v xs.length _ hs hown ⟨b, off, none⟩ 1 c (E.c x) hy (by rw [E.len, Nat.one_mul]) ?_ (E.one x) (by omega) (by unfold maxLen; omega) ?_ hbase _ rfl ?_
  · intro j u hu
    have hadd : (⟨b, off, none⟩ : Addr).add j = ⟨b, off + j, none⟩ := by unfold Addr.add; split <;> simp_all
    rw [hadd]
    exact hnews j u hu
  · have := Nat.mul_le_mul (show xs.length + 1 ≤ 68719476737 by omega) hby
    omega
  · intro g cap w' h2 h3 h4 _
    refine hK ⟨some ⟨g, 0, none⟩, xs.length + 1, cap⟩ w' ?_ h3 ?_
    · unfold Own
      simpa [List.flatMap_append] using h2
    · rcases h4 with h4 | h4
      · exact .inl h4.symm
      · exact .inr ⟨g, rfl, by omega⟩

/-- The first element is left out. -/
theorem Rep.tail {α : Type} {E : El α} {w : World} {g o n c : Nat} {xs : List α} (h : Rep E w (.slice (some ⟨g, o, none⟩) n c) xs) (hn : 1 ≤ n) : Rep E w (.slice (some ⟨g, o + E.sz, none⟩) (n - 1) (c - 1)) xs.tail := by
  obtain ⟨a', c', hv, h1, h2, h3⟩ := h
  simp only [Value.slice.injEq] at hv
  obtain ⟨rfl, rfl, rfl⟩ := hv
  refine ⟨_, c - 1, by rw [List.length_tail], by rw [List.length_tail]; omega, by omega, fun i x hx => ?_⟩
  rw [List.getElem?_tail] at hx
  obtain ⟨b, o', hb, hi⟩ := h3 (i + 1) x hx
  simp only [Option.some.injEq, Addr.mk.injEq, and_true] at hb
  obtain ⟨rfl, rfl⟩ := hb
  refine ⟨g, o + E.sz, rfl, fun j u hu => ?_⟩
  have := hi j u hu
  rw [Nat.add_mul, Nat.one_mul] at this
  rw [← this]
  congr 2
  omega

end Go.Proofs.Ytpnmphfdfadlcaa
