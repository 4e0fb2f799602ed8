/-
  From the form's reading of an argument to what the walks ask of it.
-/
import Derived.Test.YtpnmphfdfadlcaaRows
import Derived.Test.YtpnmphfdfadlcaaBase
import Derived.ProofKit
import Derived.Deep.Slices
namespace Go.Proofs.Ytpnmphfdfadlcaa
open Go.RowKit Go.Deep Go.ChangeShapes Go.WideShapes Go.ChangeAt

theorem addr_of_cell {w : World} {a : Addr} {v : Value} (h : w.cell? a = some v) : a.spot = none := by
  unfold World.cell? at h
  split at h
  · cases hs : a.spot with
    | none => rfl
    | some x => simp [hs] at h
  · cases h

theorem cells_get {w : World} {base : Nat} {a : Addr} {n : Nat} {cs : List Value} (h : w.cells? base a n = some cs) {j : Nat} {u : Value} (hu : cs[j]? = some u) : w.cell? (a.add j) = some u := by
  unfold World.cells? at h
  split at h
  · have hl := mapM_some_length h
    have hj : j < n := by
      have := (List.getElem?_eq_some_iff.1 hu).1
      rw [hl] at this; simpa using this
    have := mapM_some_get h j j (by simp [hj])
    rw [this]; exact hu
  · cases h

theorem add_none (b o j : Nat) : (⟨b, o, none⟩ : Addr).add j = ⟨b, o + j, none⟩ := by unfold Addr.add; split <;> simp_all

section
variable {H : Type} {enc : TypeId × Value → H} {P : Program} {w : World} {base : Nat} {spare : Nat → Bool} {held : Bool} {fuel : Nat} {cs : List Value} {x : DataW H × List MemPlace}

theorem rep_of_trod {α : Type} [Inhabited α] (E : El α) {t e : TypeId} (ht : P.underlying t = some (.slice e)) (hc : P.cellsOf e = E.sz) (Q : α → Prop)
    (hel : ∀ n cs x, DataW.trod enc P w base spare held n e cs = some x → ∃ y, cs = E.c y ∧ Q y) (h : DataW.trod enc P w base spare held fuel t cs = some x) : ∃ v xs, cs = [v] ∧ Rep E w v xs ∧ ∀ y ∈ xs, Q y := by
  rcases open_slice ht h with ⟨rfl, _⟩ | ⟨a, len, cap, m, n, D, Pl, rfl, hb, hl, hm, hmm, _, hx⟩
  · exact ⟨_, [], rfl, Rep.nil w, fun y h => by simp at h⟩
  · have hlm : len ≤ m := by rw [hmm]; split <;> omega
    have each : ∀ i, i < len → ∃ y, w.cells? base (a.add (i * E.sz)) E.sz = some (E.c y) ∧ Q y := fun i hi => by
      obtain ⟨cs', h1, h2⟩ := hx i (by omega)
      obtain ⟨y, rfl, hq⟩ := hel n cs' _ h2
      rw [hc] at h1
      exact ⟨y, h1, hq⟩
    obtain ⟨f, hf⟩ := choose_lt each
    refine ⟨_, (List.range len).map f, rfl, ⟨some a, cap, by simp, by simpa using hl, hm, fun i y hy => ?_⟩, ?_⟩
    · simp only [List.getElem?_map] at hy
      have hi : i < len := by
        rcases Nat.lt_or_ge i len with h | h
        · exact h
        · rw [List.getElem?_eq_none (by simpa using h)] at hy; simp at hy
      rw [List.getElem?_range hi] at hy
      simp at hy
      subst hy
      have h0 := cells_get (hf 0 (by omega)).1 (El.first (E := E) (f 0)).choose_spec
      rw [Nat.zero_mul] at h0
      have hsp : a.spot = none := addr_of_cell (a := a) (by simpa [Addr.add] using h0)
      obtain ⟨ab, ao, asp⟩ := a
      simp at hsp
      subst hsp
      refine ⟨ab, ao, rfl, fun j u hu => ?_⟩
      have := cells_get (hf i hi).1 hu
      rwa [add_none, add_none] at this
    · intro y hy
      simp only [List.mem_map, List.mem_range] at hy
      obtain ⟨i, hi, rfl⟩ := hy
      exact (hf i hi).2

theorem trod_one {t : TypeId} {k : IntKind} (ht : P.underlying t = some (.int k)) {v : Value} {y : Option (DataW H × List MemPlace)} {n : Nat} (h : DataW.trod enc P w base spare held n t [v] = y) (hy : y ≠ none) : ∃ i, v = .int k i := by
  cases y with
  | none => exact absurd rfl hy
  | some x =>
    obtain ⟨i, h1, _⟩ := DataW.trod_int ht h
    exact ⟨i, by simpa using h1⟩

theorem choose_rows {α β : Type} {Q : α → β → Prop} : ∀ (us : List α), (∀ u ∈ us, ∃ r, Q u r) → ∃ p : List β, p.length = us.length ∧ ∀ (i : Nat) (u : α) (r : β), us[i]? = some u → p[i]? = some r → Q u r
  | [], _ => ⟨[], rfl, fun i u r h => by simp at h⟩
  | u :: us, h => by
    obtain ⟨r, hr⟩ := h u (List.mem_cons_self ..)
    obtain ⟨p, h1, h2⟩ := choose_rows us (fun u hu => h u (List.mem_cons_of_mem _ hu))
    refine ⟨r :: p, by simp [h1], fun i u' r' hu hr' => ?_⟩
    cases i with
    | zero => simp at hu hr'; subst hu; subst hr'; exact hr
    | succ i => exact h2 i u' r' (by simpa using hu) (by simpa using hr')

instance : Inhabited Slc := ⟨⟨none, 0, 0⟩⟩
instance : Inhabited Ins := ⟨⟨0, 0, 0, 0⟩⟩

theorem rep2_of_trod {α : Type} [Inhabited α] (E : El α) {t e q : TypeId} (ht : P.underlying t = some (.slice e)) (he : P.underlying e = some (.slice q)) (hc : P.cellsOf e = 1) (hc2 : P.cellsOf q = E.sz)
    (hel : ∀ n cs x, DataW.trod enc P w base spare held n q cs = some x → ∃ y, cs = E.c y) (h : DataW.trod enc P w base spare held fuel t cs = some x) : ∃ v p, cs = [v] ∧ Rep2 E w v p := by
  obtain ⟨v, us, rfl, h1, h2⟩ := rep_of_trod SlcE ht hc (fun s => ∃ r, Rep E w s.v r) (fun n cs x hx => by
    obtain ⟨v, r, rfl, hr, _⟩ := rep_of_trod E he hc2 (fun _ => True) (fun n cs x hx => by obtain ⟨y, hy⟩ := hel n cs x hx; exact ⟨y, hy, trivial⟩) hx
    obtain ⟨a, c, rfl, h1, h2, h3⟩ := hr
    exact ⟨⟨a, r.length, c⟩, rfl, r, a, c, rfl, h1, h2, h3⟩) h
  obtain ⟨p, h3, h4⟩ := choose_rows us h2
  exact ⟨v, p, rfl, us, h3.symm, h1, h4⟩

end

section
variable {H : Type} {enc : TypeId × Value → H} {P : Program}

theorem trodAll_below (hl : laidOutB P = true) {W W' : World} (hb : Below W.heap.size W W') : ∀ {ts : List TypeId} {vs : List Value} {ds : List (DataW H)} {ps : List MemPlace}, (∀ t ∈ ts, P.readableRec t = true ∧ t < P.types.size) →
    DataW.TrodAll enc P W 0 (fun _ => true) true ts vs ds ps → DataW.TrodAll enc P W' 0 (fun b => decide (b < W.heap.size)) true ts vs ds ps
  | [], [], [], ps, _, h => h
  | t :: ts, v :: vs, d :: ds, ps, ht, h => by
    have hlt := DataW.TrodAll.lt h
    obtain ⟨p, q, h1, h2, rfl⟩ := h
    exact ⟨p, q, Below.trod hl (ht t (List.mem_cons_self ..)).1 (ht t (List.mem_cons_self ..)).2 h1 hb (fun x hx => hlt x (List.mem_append_left _ hx)), trodAll_below hl hb (fun t ht' => ht t (List.mem_cons_of_mem _ ht')) h2, rfl⟩
  | [], [], _ :: _, _, _, h => h.elim
  | [], _ :: _, _, _, _, h => h.elim
  | _ :: _, [], _, _, _, h => h.elim
  | _ :: _, _ :: _, [], _, _, h => h.elim

/-- A law that answers true and turns nothing that was there. -/
theorem post_law {f : Func} {s : ChangeSpec} {apart : Bool} {W W' : World} {args : Array Value} {ds : List (DataW H)} {before : List MemPlace} {tb : TypeId} (hl : laidOutB P = true) (hts : ∀ t ∈ f.params.toList, P.readableRec t = true ∧ t < P.types.size)
    (hv : s.vars = []) (hs : s.fn H (ds ++ []) = { results := [.lit (.bool true)], args := ds, vars := [] }) (hr : f.resultTypes = #[tb]) (htb : P.underlying tb = some .bool)
    (hW : DataW.Whole enc P f.params.toList s.vars apart W args.toList ds [] before) (hb : Below W.heap.size W W') : s.post enc P f apart true false false W args (.bool true) W' := by
  have hW2 := hW
  obtain ⟨p, q, hA, hV, rfl, hfz, hnd⟩ := hW2
  rw [hv] at hV
  obtain ⟨_, rfl⟩ := trodVars_none hV
  refine ⟨ds, [], _, [], p, [], hW, ?_, ?_, ?_, hb.frame _, fun h => by cases h⟩
  · rw [hs, hr]
    exact trodAll_mk1 (shut_bool htb _)
  · rw [hs]
    exact trodAll_below hl hb hts hA
  · rw [hs, hv]
    rfl

end
end Go.Proofs.Ytpnmphfdfadlcaa
