/-
  Arguments that are conditions, as the laws take them.
-/
import Derived.Test.YtlnmlmpmpnjfmaaArgI
import Derived.Test.YtlnmlmpmpnjfmaaT1
namespace Go.Proofs.Ytlnmlmpmpnjfmaa
open Go.RowKit Go.Deep Go.ChangeShapes Go.WideShapes Go.ChangeAt

theorem Try.cellsCondL : Try.prog.cellsOf 50 = 5 := by kernel_rfl
theorem Try.cellsCondSL : Try.prog.cellsOf 48 = 1 := by kernel_rfl

theorem five {l : List Value} (h : l.length = 5) : ∃ a b c d e, l = [a, b, c, d, e] := by
  match l, h with
  | [a, b, c, d, e], _ => exact ⟨a, b, c, d, e, rfl⟩

instance : Inhabited Cs := ⟨⟨0, 0, 0, 0, ⟨none, 0, 0⟩⟩⟩

section
variable {H : Type} {enc : TypeId × Value → H} {P : Program} {w : World} {base : Nat} {spare : Nat → Bool} {held : Bool}

theorem rep_of_trod_n {fuel : Nat} {cs : List Value} {x : DataW H × List MemPlace} {α : Type} [Inhabited α] (E : El α) {t e : TypeId} (ht : P.underlying t = some (.slice e)) (hc : P.cellsOf e = E.sz) (Q : α → Prop)
    (hel : ∀ n, n < fuel → ∀ cs x, DataW.trod enc P w base spare held n e cs = some x → ∃ y, cs = E.c y ∧ Q y) (h : DataW.trod enc P w base spare held fuel t cs = some x) : ∃ v xs, cs = [v] ∧ Rep E w v xs ∧ ∀ y ∈ xs, Q y := by
  rcases DataW.trod_slice ht h with ⟨rfl, _⟩ | ⟨a, len, cap, elems, rest, n, rfl, rfl, _, hb, hl, hm, hlen, hx, _, _⟩
  · exact ⟨_, [], rfl, Rep.nil w, fun y h => by simp at h⟩
  · have each : ∀ i, i < len → ∃ y, w.cells? base (a.add (i * E.sz)) E.sz = some (E.c y) ∧ Q y := fun i hi => by
      have key := hx i hi
      rw [List.getElem?_eq_getElem (by omega)] at key
      obtain ⟨cs', h1, h2⟩ := Option.bind_eq_some_iff.1 key
      obtain ⟨y, rfl, hq⟩ := hel n (by omega) cs' _ h2
      rw [hc] at h1
      exact ⟨y, h1, hq⟩
    obtain ⟨f, hf⟩ := choose_lt each
    refine ⟨_, (List.range len).map f, rfl, ⟨some a, cap, by simp, by simpa using hl, hm, fun i y hy => ?_⟩, ?_⟩
    · simp only [List.getElem?_map] at hy
      have hi : i < len := by
        rcases Nat.lt_or_ge i len with h | h
        · exact h
        · rw [List.getElem?_eq_none (by simpa using h)] at hy; simp at hy
      rw [List.getElem?_range hi] at hy
      simp at hy
      subst hy
      have h0 := cells_get (hf 0 (by omega)).1 (El.first (E := E) (f 0)).choose_spec
      rw [Nat.zero_mul] at h0
      have hsp : a.spot = none := addr_of_cell (a := a) (by simpa [Addr.add] using h0)
      obtain ⟨ab, ao, asp⟩ := a
      simp at hsp
      subst hsp
      refine ⟨ab, ao, rfl, fun j u hu => ?_⟩
      have := cells_get (hf i hi).1 hu
      rwa [add_none, add_none] at this
    · intro y hy
      simp only [List.mem_map, List.mem_range] at hy
      obtain ⟨i, hi, rfl⟩ := hy
      exact (hf i hi).2

theorem repK_of_rep {v : Value} {us : List Cs} (h : Rep CsE w v us) (hq : ∀ u ∈ us, ∃ c, RepC 0 w u c) : ∃ (s : Slc) (ks : List Cd), v = s.v ∧ RepK 0 w s ks := by
  obtain ⟨ks, h1, h2⟩ := choose_rows us hq
  obtain ⟨a, c, rfl, h3, h4, h5⟩ := h
  exact ⟨⟨a, us.length, c⟩, ks, rfl, us, h1.symm, ⟨a, c, rfl, h3, h4, h5⟩, .inr fun b o _ => Nat.zero_le _, h2⟩

end

section
variable {H : Type} {enc : TypeId × Value → H} {w : World} {base : Nat} {spare : Nat → Bool} {held : Bool}

theorem conds_of_trod : ∀ (fuel : Nat) (cs : List Value) (x : DataW H × List MemPlace), DataW.trod enc Try.prog w base spare held fuel 48 cs = some x → ∃ (s : Slc) (ks : List Cd), cs = [s.v] ∧ RepK 0 w s ks := by
  intro fuel
  induction fuel using Nat.strongRecOn with
  | ind fuel ih =>
    intro cs x h
    obtain ⟨v, us, rfl, hr, hq⟩ := rep_of_trod_n CsE Try.underlying48 Try.cellsCondL (fun u => ∃ c, RepC 0 w u c) (fun n hn cs x hx => by
      obtain ⟨xs, m, rfl, rfl, hlen, hxl, hf⟩ := DataW.trod_struct Try.underlying50 hx
      rw [Try.cellsCondL] at hlen
      obtain ⟨a, b, c, d, e, rfl⟩ := five hlen
      have h0 : DataW.trod enc Try.prog w base spare held m 3 (([a, b, c, d, e].drop 0).take (Try.prog.cellsOf 3)) = xs[0]? := hf 0 _ rfl
      have h1 : DataW.trod enc Try.prog w base spare held m 3 (([a, b, c, d, e].drop 1).take (Try.prog.cellsOf 3)) = xs[1]? := hf 1 _ rfl
      have h2 : DataW.trod enc Try.prog w base spare held m 3 (([a, b, c, d, e].drop 2).take (Try.prog.cellsOf 3)) = xs[2]? := hf 2 _ rfl
      have h3 : DataW.trod enc Try.prog w base spare held m 3 (([a, b, c, d, e].drop 3).take (Try.prog.cellsOf 3)) = xs[3]? := hf 3 _ rfl
      have h4 : DataW.trod enc Try.prog w base spare held m 48 (([a, b, c, d, e].drop 4).take (Try.prog.cellsOf 48)) = xs[4]? := hf 4 _ rfl
      rw [Try.cellsInt] at h0 h1 h2 h3
      rw [Try.cellsCondSL] at h4
      have hxl' : xs.length = 5 := hxl
      obtain ⟨i0, rfl⟩ := trod_one (v := a) Try.underlying3 h0 (by rw [List.getElem?_eq_getElem (by omega)]; simp)
      obtain ⟨i1, rfl⟩ := trod_one (v := b) Try.underlying3 h1 (by rw [List.getElem?_eq_getElem (by omega)]; simp)
      obtain ⟨i2, rfl⟩ := trod_one (v := c) Try.underlying3 h2 (by rw [List.getElem?_eq_getElem (by omega)]; simp)
      obtain ⟨i3, rfl⟩ := trod_one (v := d) Try.underlying3 h3 (by rw [List.getElem?_eq_getElem (by omega)]; simp)
      rw [List.getElem?_eq_getElem (by omega)] at h4
      obtain ⟨s, ks, he, hk⟩ := ih m (by omega) _ _ h4
      have he' : e = s.v := by simpa using he
      subst he'
      exact ⟨⟨i0, i1, i2, i3, s⟩, rfl, _, hk.cond i0 i1 i2 i3⟩) h
    obtain ⟨s, ks, rfl, hk⟩ := repK_of_rep hr hq
    exact ⟨s, ks, rfl, hk⟩

theorem cond_of_trod {v : Value} {d : DataW H} {ps : List MemPlace} (hok : ∃ cs, v = .agg cs ∧ cs.size = Try.prog.cellsOf 50) (h : DataW.Trod enc Try.prog w base spare held 50 v d ps) :
    ∃ (o t p x : Int) (a : Option Addr) (n c : Nat) (ks : List Cd), v = .agg #[.int .i64 o, .int .i64 t, .int .i64 p, .int .i64 x, .slice a n c] ∧ RepK 0 w ⟨a, n, c⟩ ks := by
  obtain ⟨fuel, hf⟩ := h
  obtain ⟨cs, rfl, hsz⟩ := hok
  obtain ⟨xs, m, -, -, hlen, hxl, hf⟩ := DataW.trod_struct Try.underlying50 hf
  rw [Try.cellsCondL] at hsz
  obtain ⟨a, b, c, d, e, hcs⟩ := five (l := cs.toList) (by simpa using hsz)
  obtain rfl : cs = #[a, b, c, d, e] := by rw [← Array.toArray_toList (xs := cs), hcs]
  have hxl' : xs.length = 5 := hxl
  have h0 : DataW.trod enc Try.prog w base spare held m 3 (([a, b, c, d, e].drop 0).take (Try.prog.cellsOf 3)) = xs[0]? := hf 0 _ rfl
  have h1 : DataW.trod enc Try.prog w base spare held m 3 (([a, b, c, d, e].drop 1).take (Try.prog.cellsOf 3)) = xs[1]? := hf 1 _ rfl
  have h2 : DataW.trod enc Try.prog w base spare held m 3 (([a, b, c, d, e].drop 2).take (Try.prog.cellsOf 3)) = xs[2]? := hf 2 _ rfl
  have h3 : DataW.trod enc Try.prog w base spare held m 3 (([a, b, c, d, e].drop 3).take (Try.prog.cellsOf 3)) = xs[3]? := hf 3 _ rfl
  have h4 : DataW.trod enc Try.prog w base spare held m 48 (([a, b, c, d, e].drop 4).take (Try.prog.cellsOf 48)) = xs[4]? := hf 4 _ rfl
  rw [Try.cellsInt] at h0 h1 h2 h3
  rw [Try.cellsCondSL] at h4
  obtain ⟨i0, rfl⟩ := trod_one (v := a) Try.underlying3 h0 (by rw [List.getElem?_eq_getElem (by omega)]; simp)
  obtain ⟨i1, rfl⟩ := trod_one (v := b) Try.underlying3 h1 (by rw [List.getElem?_eq_getElem (by omega)]; simp)
  obtain ⟨i2, rfl⟩ := trod_one (v := c) Try.underlying3 h2 (by rw [List.getElem?_eq_getElem (by omega)]; simp)
  obtain ⟨i3, rfl⟩ := trod_one (v := d) Try.underlying3 h3 (by rw [List.getElem?_eq_getElem (by omega)]; simp)
  rw [List.getElem?_eq_getElem (by omega)] at h4
  obtain ⟨s, ks, he, hk⟩ := conds_of_trod m _ _ h4
  have he' : e = s.v := by simpa using he
  subst he'
  exact ⟨i0, i1, i2, i3, s.a, s.n, s.cap, ks, rfl, hk⟩

end
end Go.Proofs.Ytlnmlmpmpnjfmaa
