/-
  Plain: fences that are put into places of a program.
-/
import Derived.Test.YtpnmphfdfadlcaaP3
import Derived.Test.YtpnmphfdfadlcaaF7
import Derived.Test.YtpnmphfdfadlcaaF11
namespace Go.Proofs.Ytpnmphfdfadlcaa
open Go.RowKit

def fenceI : Ins := ⟨4, 0, 0, 0⟩
/-- The first n instructions, with a fence ahead of each place that f tells. -/
def putTo (f : Int → Bool) (r : List Ins) : Nat → List Ins
  | 0 => []
  | n + 1 => putTo f r n ++ ((if f n = true then [fenceI] else []) ++ r[n]?.toList)
def putI (f : Int → Bool) (r : List Ins) : List Ins := putTo f r r.length
/-- The first j rows with their fences. -/
def putPT (f : Gp → Bool) (p : List (List Ins)) : Nat → List (List Ins)
  | 0 => []
  | j + 1 => putPT f p j ++ (p[j]?.toList.map (putI fun i => f ⟨j, i⟩))
def putP (f : Gp → Bool) (p : List (List Ins)) : List (List Ins) := putPT f p p.length

theorem putTo_succ {f : Int → Bool} {r : List Ins} {n : Nat} {x : Ins} (h : r[n]? = some x) : putTo f r (n + 1) = putTo f r n ++ (if f n = true then [fenceI, x] else [x]) := by
  show putTo f r n ++ ((if f n = true then [fenceI] else []) ++ r[n]?.toList) = _
  rw [h]
  by_cases e : f n = true <;> simp [e]

theorem putTo_le (f : Int → Bool) (r : List Ins) : ∀ n, n ≤ r.length → n ≤ (putTo f r n).length ∧ (putTo f r n).length ≤ 2 * n := by
  intro n
  induction n with
  | zero => intro _; exact ⟨Nat.le_refl _, Nat.le_refl _⟩
  | succ n ih =>
    intro h
    obtain ⟨x, hx⟩ := get_of_lt (xs := r) (k := n) h
    have := ih (by omega)
    rw [putTo_succ hx]
    by_cases e : f n = true <;> simp [e] <;> omega

theorem putTo_none {f : Int → Bool} {r : List Ins} : ∀ n, n ≤ r.length → (∀ i : Nat, i < n → f i = false) → putTo f r n = r.take n := by
  intro n
  induction n with
  | zero => intro _ _; simp [putTo]
  | succ n ih =>
    intro h hf
    obtain ⟨x, hx⟩ := get_of_lt (xs := r) (k := n) h
    rw [putTo_succ hx, ih (by omega) (fun i hi => hf i (by omega)), hf n (by omega), List.take_add_one, hx]
    rfl

theorem putTo_congr {f g : Int → Bool} {r : List Ins} : ∀ n, (∀ i : Nat, i < n → f i = g i) → putTo f r n = putTo g r n := by
  intro n
  induction n with
  | zero => intro _; rfl
  | succ n ih =>
    intro hf
    unfold putTo
    rw [ih (fun i hi => hf i (by omega)), hf n (by omega)]

/-- One more fence, ahead of all others. -/
theorem putTo_insert {f : Int → Bool} {r : List Ins} {k : Nat} (h0 : ∀ i : Nat, i ≤ k → f i = false) : ∀ n, k < n → n ≤ r.length → putTo (fun i => f i || i == (k : Int)) r n = (putTo f r n).take k ++ fenceI :: (putTo f r n).drop k := by
  intro n
  induction n with
  | zero => intro h; omega
  | succ n ih =>
    intro hk hn
    obtain ⟨x, hx⟩ := get_of_lt (xs := r) (k := n) hn
    by_cases e : k = n
    · subst e
      have e1 : putTo (fun i => f i || i == (k : Int)) r k = r.take k := putTo_none k (by omega) (fun i hi => by
        have h1 := h0 i (by omega)
        have h2 : ((i : Int) == (k : Int)) = false := by rw [beq_eq_false_iff_ne]; omega
        rw [h1, h2]; rfl)
      have e2 : putTo f r k = r.take k := putTo_none k (by omega) (fun i hi => h0 i (by omega))
      have hl : (r.take k).length = k := by simp; omega
      rw [putTo_succ hx, putTo_succ hx, e1, e2, h0 k (Nat.le_refl _)]
      simp only [beq_self_eq_true, Bool.or_true, if_true, Bool.false_eq_true, if_false]
      rw [List.take_left' hl, List.drop_left' hl]
    · have hl := (putTo_le f r n (by omega)).1
      have hkn : ((n : Int) == (k : Int)) = false := by rw [beq_eq_false_iff_ne]; omega
      rw [putTo_succ hx, putTo_succ hx, ih (by omega) (by omega), List.take_append_of_le_length (by omega), List.drop_append_of_le_length (by omega), hkn, Bool.or_false]
      simp

theorem putPT_succ {f : Gp → Bool} {p : List (List Ins)} {j : Nat} {r : List Ins} (h : p[j]? = some r) : putPT f p (j + 1) = putPT f p j ++ [putI (fun i => f ⟨j, i⟩) r] := by
  show putPT f p j ++ (p[j]?.toList.map (putI fun i => f ⟨j, i⟩)) = _
  rw [h]; rfl

theorem putPT_length (f : Gp → Bool) (p : List (List Ins)) : ∀ j, j ≤ p.length → (putPT f p j).length = j := by
  intro j
  induction j with
  | zero => intro _; rfl
  | succ j ih =>
    intro h
    obtain ⟨r, hr⟩ := get_of_lt (xs := p) (k := j) h
    rw [putPT_succ hr, List.length_append, ih (by omega)]; rfl

theorem putPT_get (f : Gp → Bool) (p : List (List Ins)) : ∀ j, j ≤ p.length → ∀ k, k < j → ∀ r, p[k]? = some r → (putPT f p j)[k]? = some (putI (fun i => f ⟨k, i⟩) r) := by
  intro j
  induction j with
  | zero => intro _ k hk; omega
  | succ j ih =>
    intro h k hk r hr
    obtain ⟨r', hr'⟩ := get_of_lt (xs := p) (k := j) h
    have hl := putPT_length f p j (by omega)
    rw [putPT_succ hr']
    by_cases e : k = j
    · subst e
      rw [hr] at hr'; simp at hr'; subst hr'
      rw [List.getElem?_append_right (by omega), hl, Nat.sub_self]; rfl
    · rw [List.getElem?_append_left (by omega)]
      exact ih (by omega) k (by omega) r hr

theorem putP_length (f : Gp → Bool) (p : List (List Ins)) : (putP f p).length = p.length := putPT_length f p _ (Nat.le_refl _)
theorem putP_get {f : Gp → Bool} {p : List (List Ins)} {k : Nat} {r : List Ins} (h : p[k]? = some r) : (putP f p)[k]? = some (putI (fun i => f ⟨k, i⟩) r) :=
  putPT_get f p _ (Nat.le_refl _) k (List.getElem?_eq_some_iff.1 h).1 r h

theorem putP_none {f : Gp → Bool} {p : List (List Ins)} (hf : ∀ g, f g = false) : putP f p = p := by
  apply List.ext_getElem?
  intro i
  by_cases h : i < p.length
  · obtain ⟨r, hr⟩ := get_of_lt (xs := p) (k := i) h
    rw [putP_get hr, hr]
    unfold putI
    rw [putTo_none _ (Nat.le_refl _) (fun _ _ => hf _), List.take_length]
  · rw [List.getElem?_eq_none (by rw [putP_length]; omega), List.getElem?_eq_none (by omega)]

theorem putP_congr {f g : Gp → Bool} {p : List (List Ins)} (h : ∀ x, f x = g x) : putP f p = putP g p := by rw [funext h]

/-- The places of gaps come in order. -/
def gpLt (a b : Gp) : Prop := a.t < b.t ∨ (a.t = b.t ∧ a.i < b.i)

theorem rowGaps_mem {t : Nat} {r : List Ins} : ∀ n, ∀ g ∈ rowGaps t r n, g.t = (t : Int) ∧ ∃ i : Nat, g.i = (i : Int) ∧ 1 ≤ i ∧ i < n ∧ gapAt r i = true := by
  intro n g hg
  unfold rowGaps at hg
  simp only [List.mem_map, List.mem_filter, List.mem_range] at hg
  obtain ⟨i, ⟨h1, h2⟩, rfl⟩ := hg
  refine ⟨rfl, i, rfl, ?_, h1, h2⟩
  unfold gapAt at h2
  split at h2
  · simp at h2; exact h2.1
  · cases h2

theorem rowGaps_sorted (t : Nat) (r : List Ins) : ∀ n, (rowGaps t r n).Pairwise gpLt := by
  intro n
  induction n with
  | zero => rw [rowGaps_zero]; exact List.Pairwise.nil
  | succ n ih =>
    rw [rowGaps_succ, List.pairwise_append]
    refine ⟨ih, ?_, ?_⟩
    · by_cases e : gapAt r n = true <;> simp [e]
    · intro a ha b hb
      obtain ⟨h1, i, h2, -, h3, -⟩ := rowGaps_mem n a ha
      by_cases e : gapAt r n = true
      · rw [if_pos e] at hb
        simp at hb; subst hb
        exact .inr ⟨h1, by rw [h2]; show (i : Int) < (n : Int); omega⟩
      · rw [if_neg e] at hb; simp at hb

theorem gapsTo_mem {p : List (List Ins)} : ∀ j, j ≤ p.length → ∀ g ∈ gapsTo p j, ∃ (t i : Nat) (r : List Ins), g = ⟨t, i⟩ ∧ t < j ∧ p[t]? = some r ∧ 1 ≤ i ∧ i < r.length ∧ gapAt r i = true := by
  intro j
  induction j with
  | zero => intro _ g hg; simp [gapsTo] at hg
  | succ j ih =>
    intro h g hg
    obtain ⟨r, hr⟩ := get_of_lt (xs := p) (k := j) h
    rw [gapsTo_succ hr, List.mem_append] at hg
    rcases hg with hg | hg
    · obtain ⟨t, i, r', h1, h2, h3⟩ := ih (by omega) g hg
      exact ⟨t, i, r', h1, by omega, h3⟩
    · obtain ⟨h1, i, h2, h3, h4, h5⟩ := rowGaps_mem _ g hg
      obtain ⟨gt, gi⟩ := g
      simp only at h1 h2
      subst h1; subst h2
      exact ⟨j, i, r, rfl, by omega, hr, h3, h4, h5⟩

theorem gapsTo_sorted (p : List (List Ins)) : ∀ j, j ≤ p.length → (gapsTo p j).Pairwise gpLt := by
  intro j
  induction j with
  | zero => intro _; simp [gapsTo]
  | succ j ih =>
    intro h
    obtain ⟨r, hr⟩ := get_of_lt (xs := p) (k := j) h
    rw [gapsTo_succ hr, List.pairwise_append]
    refine ⟨ih (by omega), rowGaps_sorted _ _ _, ?_⟩
    intro a ha b hb
    obtain ⟨t, i, r', rfl, h2, -⟩ := gapsTo_mem j (by omega) a ha
    obtain ⟨h3, -⟩ := rowGaps_mem _ b hb
    refine .inl ?_
    rw [h3]; show (t : Int) < (j : Int); omega

theorem gapsP_mem {p : List (List Ins)} {g : Gp} (h : g ∈ gapsP p) : ∃ (t i : Nat) (r : List Ins), g = ⟨t, i⟩ ∧ p[t]? = some r ∧ 1 ≤ i ∧ i < r.length ∧ gapAt r i = true := by
  obtain ⟨t, i, r, h1, -, h3⟩ := gapsTo_mem _ (Nat.le_refl _) g h
  exact ⟨t, i, r, h1, h3⟩

/-- Which fences stand once the gaps from j on are done. -/
def putS (L all : List Gp) (j : Nat) (x : Gp) : Bool := decide (x ∈ L) && decide (x ∈ all.drop j)

theorem putS_all {L all : List Gp} (x : Gp) : putS L all all.length x = false := by simp [putS]
theorem putS_zero {L all : List Gp} (h : ∀ g ∈ L, g ∈ all) (x : Gp) : putS L all 0 x = decide (x ∈ L) := by
  unfold putS
  by_cases e : x ∈ L
  · simp [e, h x e]
  · simp [e]

theorem drop_mem {all : List Gp} {j : Nat} {g : Gp} (hg : all[j]? = some g) (x : Gp) : x ∈ all.drop j ↔ x = g ∨ x ∈ all.drop (j + 1) := by
  have hj := (List.getElem?_eq_some_iff.1 hg)
  obtain ⟨h1, h2⟩ := hj
  rw [List.drop_eq_getElem_cons h1, h2, List.mem_cons]

theorem putS_skip {L all : List Gp} {j : Nat} {g : Gp} (hg : all[j]? = some g) (hL : g ∉ L) (x : Gp) : putS L all j x = putS L all (j + 1) x := by
  unfold putS
  by_cases e : x = g
  · subst e; simp [hL]
  · simp [drop_mem hg, e]

theorem putS_put {L all : List Gp} {j : Nat} {g : Gp} (hg : all[j]? = some g) (hL : g ∈ L) (x : Gp) : putS L all j x = (putS L all (j + 1) x || decide (x = g)) := by
  unfold putS
  by_cases e : x = g
  · subst e; simp [hL, drop_mem hg]
  · simp [drop_mem hg, e]

theorem sorted_drop {all : List Gp} (hs : all.Pairwise gpLt) {j : Nat} {g x : Gp} (hg : all[j]? = some g) (hx : x ∈ all.drop (j + 1)) : gpLt g x := by
  obtain ⟨h1, h2⟩ := List.getElem?_eq_some_iff.1 hg
  have h3 := hs.sublist (List.drop_sublist j all)
  rw [List.drop_eq_getElem_cons h1, h2, List.pairwise_cons] at h3
  exact h3.1 x hx

/-- One gap more: its row gets a fence. -/
theorem putP_step {p : List (List Ins)} {L : List Gp} {j t i : Nat} {r : List Ins} (hg : (gapsP p)[j]? = some ⟨t, i⟩) (hL : (⟨t, i⟩ : Gp) ∈ L) (hr : p[t]? = some r) (hi : i < r.length) :
    (putP (putS L (gapsP p) (j + 1)) p).set t ((putI (fun k => putS L (gapsP p) (j + 1) ⟨t, k⟩) r).take i ++ fenceI :: (putI (fun k => putS L (gapsP p) (j + 1) ⟨t, k⟩) r).drop i) = putP (putS L (gapsP p) j) p := by
  have hsort := gapsTo_sorted p _ (Nat.le_refl _)
  apply List.ext_getElem?
  intro k
  rw [List.getElem?_set]
  by_cases e : t = k
  · subst e
    rw [if_pos rfl, if_pos (by rw [putP_length]; exact (List.getElem?_eq_some_iff.1 hr).1), putP_get hr]
    congr 1
    unfold putI
    rw [← putTo_insert (k := i) (fun q hq => ?_) _ hi (Nat.le_refl _)]
    · refine putTo_congr _ (fun q _ => ?_)
      rw [putS_put hg hL]
      congr 1
      rw [Bool.eq_iff_iff]
      simp
    · unfold putS
      by_cases hm : (⟨t, q⟩ : Gp) ∈ (gapsP p).drop (j + 1)
      · rcases sorted_drop hsort hg hm with h | ⟨-, h⟩
        · exact absurd h (by show ¬ (t : Int) < t; omega)
        · have : (i : Int) < (q : Int) := h
          omega
      · simp [hm]
  · rw [if_neg e]
    by_cases hk : k < p.length
    · obtain ⟨r', hr'⟩ := get_of_lt (xs := p) (k := k) hk
      rw [putP_get hr', putP_get hr']
      congr 1
      refine putTo_congr _ (fun q _ => ?_)
      rw [putS_put hg hL]
      have : decide ((⟨(k : Int), (q : Int)⟩ : Gp) = ⟨t, i⟩) = false := by simp; omega
      rw [this, Bool.or_false]
    · rw [List.getElem?_eq_none (by rw [putP_length]; omega), List.getElem?_eq_none (by rw [putP_length]; omega)]

theorem putP_skip {p : List (List Ins)} {L : List Gp} {j : Nat} {g : Gp} (hg : (gapsP p)[j]? = some g) (hL : g ∉ L) : putP (putS L (gapsP p) (j + 1)) p = putP (putS L (gapsP p) j) p :=
  putP_congr fun x => (putS_skip hg hL x).symm

def inL (L : List Gp) (x : Gp) : Bool := decide (x ∈ L)
def subG (L all : List Gp) : Bool := L.all fun g => decide (g ∈ all)
def putOk (p : List (List Ins)) (L : List Gp) : Bool := progValid p && subG L (gapsP p) && progValid (putP (inL L) p)
def putV (p : List (List Ins)) (L : List Gp) : List (List Ins) := if putOk p L = true then putP (inL L) p else []

theorem putI_le (f : Int → Bool) (r : List Ins) : (putI f r).length ≤ 2 * r.length := (putTo_le f r _ (Nat.le_refl _)).2
theorem putP_rows {f : Gp → Bool} {p : List (List Ins)} {n : Nat} (h : ∀ r ∈ p, r.length ≤ n) : ∀ r ∈ putP f p, r.length ≤ 2 * n := by
  intro r hr
  obtain ⟨k, hk⟩ := List.mem_iff_getElem?.1 hr
  have hkl : k < p.length := by have := (List.getElem?_eq_some_iff.1 hk).1; rwa [putP_length] at this
  obtain ⟨r', hr'⟩ := get_of_lt (xs := p) (k := k) hkl
  rw [putP_get hr'] at hk
  simp at hk; subst hk
  have := putI_le (fun i => f ⟨k, i⟩) r'
  have := h r' (List.mem_of_getElem? hr')
  omega

end Go.Proofs.Ytpnmphfdfadlcaa
