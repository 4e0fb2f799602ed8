/-
  Plain: which candidates for executions are valid.
-/
import Derived.Test.YtpnmphfdfadlcaaE1
import Derived.Test.YtpnmphfdfadlcaaP14
namespace Go.Proofs.Ytpnmphfdfadlcaa

/-- A candidate. -/
structure Xc where
  fr : List Int
  od : List (List Int)
deriving DecidableEq

def wr1 (l : Int) (i : Nat) (e : Ev) : List Int := if (e.w && e.l == l) = true then [(i : Int)] else []
def wrTo (es : List Ev) (l : Int) (k : Nat) : List Int := (List.range k).flatMap fun i => match es[i]? with
  | some e => wr1 l i e
  | none => []
/-- The events that write a location. -/
def wrL (es : List Ev) (l : Int) : List Int := wrTo es l es.length

theorem wrTo_succ {es : List Ev} (l : Int) {k : Nat} {e : Ev} (h : es[k]? = some e) : wrTo es l (k + 1) = wrTo es l k ++ wr1 l k e := by
  unfold wrTo
  rw [List.range_succ, List.flatMap_append]
  simp [h]
theorem wr1_length (l : Int) (i : Nat) (e : Ev) : (wr1 l i e).length ≤ 1 := by unfold wr1; split <;> simp
theorem wrTo_length (es : List Ev) (l : Int) : ∀ k, k ≤ es.length → (wrTo es l k).length ≤ k := by
  intro k
  induction k with
  | zero => intro _; simp [wrTo]
  | succ k ih =>
    intro hk
    obtain ⟨e, he⟩ := get_of_lt (xs := es) (k := k) hk
    rw [wrTo_succ l he, List.length_append]
    have := ih (by omega)
    have := wr1_length l k e
    omega
theorem wrL_length (es : List Ev) (l : Int) : (wrL es l).length ≤ es.length := wrTo_length es l es.length (Nat.le_refl _)
theorem mem_wrTo {es : List Ev} {l x : Int} : ∀ {k : Nat}, k ≤ es.length → (x ∈ wrTo es l k ↔ ∃ (i : Nat) (e : Ev), i < k ∧ x = i ∧ es[i]? = some e ∧ e.w = true ∧ e.l = l) := by
  intro k
  induction k with
  | zero => intro _; simp [wrTo]
  | succ k ih =>
    intro hk
    obtain ⟨e, he⟩ := get_of_lt (xs := es) (k := k) hk
    rw [wrTo_succ l he, List.mem_append, ih (by omega)]
    constructor
    · rintro (⟨i, e', h1, h2⟩ | h)
      · exact ⟨i, e', by omega, h2⟩
      · unfold wr1 at h
        split at h
        · rename_i hc
          simp at h hc
          exact ⟨k, e, by omega, h, he, hc.1, hc.2⟩
        · simp at h
    · rintro ⟨i, e', h1, h2, h3, h4, h5⟩
      by_cases hi : i = k
      · subst hi
        rw [he] at h3; simp at h3; subst h3
        refine .inr ?_
        unfold wr1
        rw [if_pos (by simp [h4, h5])]
        simp [h2]
      · exact .inl ⟨i, e', by omega, h2, h3, h4, h5⟩
theorem mem_wrL {es : List Ev} {l x : Int} : x ∈ wrL es l ↔ ∃ (i : Nat) (e : Ev), i < es.length ∧ x = i ∧ es[i]? = some e ∧ e.w = true ∧ e.l = l := mem_wrTo (Nat.le_refl _)
theorem wrTo_sorted (es : List Ev) (l : Int) : ∀ k, k ≤ es.length → (wrTo es l k).Pairwise (· < ·) := by
  intro k
  induction k with
  | zero => intro _; simp [wrTo]
  | succ k ih =>
    intro hk
    obtain ⟨e, he⟩ := get_of_lt (xs := es) (k := k) hk
    rw [wrTo_succ l he, List.pairwise_append]
    refine ⟨ih (by omega), ?_, ?_⟩
    · unfold wr1; split <;> simp
    · intro a ha b hb
      obtain ⟨i, e', h1, h2, -⟩ := (mem_wrTo (by omega)).1 ha
      unfold wr1 at hb
      split at hb
      · simp at hb; omega
      · simp at hb
theorem wrL_sorted (es : List Ev) (l : Int) : (wrL es l).Pairwise (· < ·) := wrTo_sorted es l es.length (Nat.le_refl _)
theorem wrL_nodup (es : List Ev) (l : Int) : (wrL es l).Nodup := (wrL_sorted es l).imp (fun h => Int.ne_of_lt h)

def fromOk (es : List Ev) (i : Nat) (e : Ev) (f : Int) : Bool := if e.r = true then (f != (i : Int)) && (wrL es e.l).contains f else f == -1
def fromsOk (es : List Ev) (fr : List Int) (k : Nat) : Bool := (List.range k).all fun i => match es[i]?, fr[i]? with
  | some e, some f => fromOk es i e f
  | _, _ => false
theorem fromsOk_succ {es : List Ev} {fr : List Int} {k : Nat} {e : Ev} {f : Int} (h : es[k]? = some e) (h2 : fr[k]? = some f) : fromsOk es fr (k + 1) = (fromsOk es fr k && fromOk es k e f) := by
  unfold fromsOk
  rw [List.range_succ, List.all_append]
  simp [h, h2]
def orderOk (es : List Ev) (l : Nat) (o : List Int) : Bool := decide (o.Perm (wrL es l)) && (o.head? == some (l : Int))
def ordersOk (es : List Ev) (od : List (List Int)) (k : Nat) : Bool := (List.range k).all fun l => match od[l]? with
  | some o => orderOk es l o
  | none => false
theorem ordersOk_succ {es : List Ev} {od : List (List Int)} {k : Nat} {o : List Int} (h : od[k]? = some o) : ordersOk es od (k + 1) = (ordersOk es od k && orderOk es k o) := by
  unfold ordersOk
  rw [List.range_succ, List.all_append]
  simp [h]
/-- Whether x is a candidate for p. -/
def execOk (p : List (List Ins)) (x : Xc) : Bool :=
  progValid p && (decide (x.fr.length = (evAll p).length) && (decide (x.od.length = 3) && (fromsOk (evAll p) x.fr (evAll p).length && ordersOk (evAll p) x.od 3)))

theorem fromsOk_get {es : List Ev} {fr : List Int} {k i : Nat} (h : fromsOk es fr k = true) (hi : i < k) : ∃ e f, es[i]? = some e ∧ fr[i]? = some f ∧ fromOk es i e f = true := by
  unfold fromsOk at h
  rw [List.all_eq_true] at h
  have := h i (List.mem_range.2 hi)
  split at this
  · rename_i e f he hf
    exact ⟨e, f, he, hf, this⟩
  · cases this
theorem ordersOk_get {es : List Ev} {od : List (List Int)} {k i : Nat} (h : ordersOk es od k = true) (hi : i < k) : ∃ o, od[i]? = some o ∧ orderOk es i o = true := by
  unfold ordersOk at h
  rw [List.all_eq_true] at h
  have := h i (List.mem_range.2 hi)
  split at this
  · rename_i o ho
    exact ⟨o, ho, this⟩
  · cases this

theorem fromsOk_no {es : List Ev} {fr : List Int} {k n : Nat} {e : Ev} {f : Int} (h : es[k]? = some e) (h2 : fr[k]? = some f) (hn : k < n) (hf : fromOk es k e f = false) : fromsOk es fr n = false := by
  unfold fromsOk
  rw [List.all_eq_false]
  exact ⟨k, List.mem_range.2 hn, by simp [h, h2, hf]⟩
theorem ordersOk_no {es : List Ev} {od : List (List Int)} {k n : Nat} {o : List Int} (h : od[k]? = some o) (hn : k < n) (hf : orderOk es k o = false) : ordersOk es od n = false := by
  unfold ordersOk
  rw [List.all_eq_false]
  exact ⟨k, List.mem_range.2 hn, by simp [h, hf]⟩

/-- Of two lists of one length, the one without doubles lies within the other: they have the same elements. -/
theorem perm_of_sub {xs ys : List Int} (hn : xs.Nodup) (hs : ∀ x ∈ xs, x ∈ ys) (hl : ys.length ≤ xs.length) : ys.Perm xs := by
  induction xs generalizing ys with
  | nil => simp at hl; subst hl; exact .nil
  | cons x xs ih =>
    have hx : x ∈ ys := hs x (by simp)
    have hp := List.perm_cons_erase hx
    refine hp.trans (.cons x (ih (List.nodup_cons.1 hn).2 (fun y hy => ?_) ?_))
    · have hne : y ≠ x := fun e => (List.nodup_cons.1 hn).1 (e ▸ hy)
      exact (List.mem_erase_of_ne hne).2 (hs y (by simp [hy]))
    · rw [List.length_erase_of_mem hx]; simp at hl; omega

theorem head_wrL {p : List (List Ins)} {l : Nat} (hl : l < 3) : (wrL (evAll p) l).head? = some (l : Int) := by
  have h3 : ∀ k, 3 ≤ k → k ≤ (evAll p).length → ∃ t, wrTo (evAll p) l k = (l : Int) :: t := by
    intro k
    induction k with
    | zero => intro h; omega
    | succ k ih =>
      intro h hk
      by_cases hk2 : k = 2
      · subst hk2
        have e0 : (evAll p)[0]? = some ⟨-1, 0, 0, false, true⟩ := rfl
        have e1 : (evAll p)[1]? = some ⟨-1, 1, 1, false, true⟩ := rfl
        have e2 : (evAll p)[2]? = some ⟨-1, 2, 2, false, true⟩ := rfl
        rw [wrTo_succ _ e2, wrTo_succ _ e1, wrTo_succ _ e0]
        have : l = 0 ∨ l = 1 ∨ l = 2 := by omega
        rcases this with rfl | rfl | rfl <;> exact ⟨_, rfl⟩
      · obtain ⟨e, he⟩ := get_of_lt (xs := evAll p) (k := k) hk
        obtain ⟨t, ht⟩ := ih (by omega) (by omega)
        rw [wrTo_succ _ he, ht]
        exact ⟨_, rfl⟩
  obtain ⟨t, ht⟩ := h3 (evAll p).length (by unfold evAll; simp [evHead_length]) (Nat.le_refl _)
  unfold wrL
  rw [ht]; rfl

end Go.Proofs.Ytpnmphfdfadlcaa
