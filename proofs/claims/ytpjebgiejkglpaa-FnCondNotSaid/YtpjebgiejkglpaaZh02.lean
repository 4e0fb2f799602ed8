/-
  How many outcomes there can be, plain. No condition.
-/
import Derived.Test.YtpjebgiejkglpaaZh00
import Derived.OrdersIn
import Derived.Orders
namespace Go.Proofs.Ytpjebgiejkglpaa
open Go.RowKit

theorem Try.infoInt : (Try.prog.info? 3).map (fun i => (i.zero, i.size, i.bytes)) = some (some (.int .i64 0), 1, 8) := by kernel_rfl

abbrev OwnN (w : World) (base : Nat) (v : Value) (xs : List Int) : Prop := Own IntE 3 w base v xs

theorem Own.int {T : TypeId} {w : World} {base g n cap : Nat} {xs : List Int} (h : Own IntE T w base (.slice (some ⟨g, 0, none⟩) n cap) xs) {k : Nat} {x : Int} (hx : xs[k]? = some x) :
    g < w.heap.size ∧ w.cell? ⟨g, k, none⟩ = some (.int .i64 x) ∧ ∀ j, w.frozen? ⟨g, j, none⟩ = false := by
  have := h.cell hx (j := 0) rfl
  simp only [IntE, Nat.mul_one, Nat.add_zero] at this
  exact ⟨(World.ownsRow.lt h g rfl).2, this, fun j => h.frozen j⟩

theorem Own.setInt {T : TypeId} {w : World} {base g n cap : Nat} {xs : List Int} (h : Own IntE T w base (.slice (some ⟨g, 0, none⟩) n cap) xs) {k : Nat} {z : Int} (hz : xs[k]? = some z) (x : Int) :
    Own IntE T (w.setCell ⟨g, k, none⟩ (.int .i64 x)) base (.slice (some ⟨g, 0, none⟩) n cap) (xs.set k x) := by
  have h0 := h.set (i := k) (j := 0) x (u := .int .i64 x) (by decide) hz rfl
  simp only [IntE, Nat.mul_one, Nat.add_zero] at h0
  exact h0

/-- The number m itself. -/
def markN (m : Int) : Int := m
/-- So many numbers, numbered from m on. -/
def marksN : Nat → Int → List Int
  | 0, _ => []
  | n + 1, m => markN m :: marksN n (m + 1)

theorem marksN_length (n : Nat) (m : Int) : (marksN n m).length = n := by
  induction n generalizing m with
  | zero => rfl
  | succ n ih => simp [marksN, ih]

theorem marksN_get (n : Nat) (m : Int) {k : Nat} (h : k < n) : (marksN n m)[k]? = some (markN (m + k)) := by
  induction n generalizing m k with
  | zero => omega
  | succ n ih =>
    cases k with
    | zero => simp [marksN]
    | succ k => simp only [marksN, List.getElem?_cons_succ]; rw [ih _ (by omega)]; congr 2; omega

/-- The first k marked, the rest as they were. -/
theorem marksN_step (xs : List Int) (m : Int) {k : Nat} (hk : k < xs.length) : ((marksN k m) ++ xs.drop k).set k (markN (m + k)) = marksN (k + 1) m ++ xs.drop (k + 1) := by
  have h1 : marksN (k + 1) m = marksN k m ++ [markN (m + k)] := by
    apply List.ext_getElem?
    intro i
    by_cases hi : i < k
    · rw [marksN_get _ _ (by omega), List.getElem?_append_left (by rw [marksN_length]; exact hi), marksN_get _ _ hi]
    · by_cases hi2 : i = k
      · subst hi2
        rw [marksN_get _ _ (by omega), List.getElem?_append_right (by rw [marksN_length]; omega), marksN_length]; simp
      · rw [List.getElem?_eq_none (by rw [marksN_length]; omega), List.getElem?_eq_none (by simp [marksN_length]; omega)]
  rw [List.set_append_right _ _ (by rw [marksN_length]; omega), marksN_length, Nat.sub_self, List.drop_eq_getElem_cons hk, List.set_cons_zero, h1]
  simp

end Go.Proofs.Ytpjebgiejkglpaa

namespace Go.Proofs.Ytpjebgiejkglpaa

structure Gp where
  t : Int
  i : Int
deriving DecidableEq

abbrev Gp.v (x : Gp) : Value := .agg #[.int .i64 x.t, .int .i64 x.i]
def GapE : El Gp := ⟨2, by decide, fun x => [.int .i64 x.t, .int .i64 x.i], fun _ => rfl, fun x u h => by simp at h; rcases h with rfl | rfl <;> rfl⟩

/-- Whether a fence fits before instruction i of a thread. -/
def gapAt (r : List Ins) (i : Nat) : Bool :=
  match r[i - 1]?, r[i]? with
  | some x, some y => decide (1 ≤ i) && (x.op != 4 && y.op != 4)
  | _, _ => false
def rowGaps (t : Nat) (r : List Ins) (n : Nat) : List Gp := ((List.range n).filter (gapAt r)).map fun (i : Nat) => ⟨t, i⟩
def gapsTo (p : List (List Ins)) (j : Nat) : List Gp := (List.range j).flatMap fun t => match p[t]? with
  | some r => rowGaps t r r.length
  | none => []
def gapsP (p : List (List Ins)) : List Gp := gapsTo p p.length

theorem rowGaps_succ (t : Nat) (r : List Ins) (n : Nat) : rowGaps t r (n + 1) = rowGaps t r n ++ if gapAt r n = true then [⟨t, n⟩] else [] := by
  unfold rowGaps
  rw [List.range_succ, List.filter_append, List.map_append]
  by_cases h : gapAt r n = true <;> simp [h]

theorem rowGaps_one (t : Nat) (r : List Ins) : rowGaps t r 1 = [] := by
  have h : gapAt r 0 = false := by unfold gapAt; split <;> simp
  rw [rowGaps_succ, if_neg (by simp [h])]; simp [rowGaps]

theorem rowGaps_zero (t : Nat) (r : List Ins) : rowGaps t r 0 = [] := by simp [rowGaps]

theorem gapsTo_succ {p : List (List Ins)} {j : Nat} {r : List Ins} (h : p[j]? = some r) : gapsTo p (j + 1) = gapsTo p j ++ rowGaps j r r.length := by
  unfold gapsTo
  rw [List.range_succ, List.flatMap_append]
  simp [h]

theorem rowGaps_length (t : Nat) (r : List Ins) (n : Nat) : (rowGaps t r n).length ≤ n := by
  unfold rowGaps
  rw [List.length_map]
  exact Nat.le_trans (List.length_filter_le _ _) (by simp)

theorem gapsTo_length (p : List (List Ins)) : ∀ j, j ≤ p.length → (gapsTo p j).length ≤ (p.take j).flatten.length := by
  intro j
  induction j with
  | zero => intro _; simp [gapsTo]
  | succ j ih =>
    intro hj
    obtain ⟨r, hr⟩ := get_of_lt (xs := p) (k := j) hj
    rw [gapsTo_succ hr, List.take_add_one, hr, List.flatten_append, List.length_append, List.length_append]
    have h1 := ih (by omega)
    have h2 := rowGaps_length j r r.length
    simp only [Option.toList_some, List.flatten_cons, List.flatten_nil, List.append_nil]
    omega

theorem rowGaps_step {t : Nat} {r : List Ins} {s : Nat} {x y : Ins} (hx : r[s]? = some x) (hy : r[s + 1]? = some y) : rowGaps t r (s + 1 + 1) = rowGaps t r (s + 1) ++ if (x.op != 4 && y.op != 4) = true then [⟨t, (s + 1 : Nat)⟩] else [] := by
  rw [rowGaps_succ]
  have : gapAt r (s + 1) = (x.op != 4 && y.op != 4) := by unfold gapAt; simp [hx, hy]
  rw [this]

theorem gapAt_of {r : List Ins} {i : Nat} {x y : Ins} (hx : r[i - 1]? = some x) (hy : r[i]? = some y) (h1 : 1 ≤ i) : gapAt r i = (x.op != 4 && y.op != 4) := by
  unfold gapAt; rw [hx, hy]; simp [h1]

end Go.Proofs.Ytpjebgiejkglpaa

namespace Go.Proofs.Ytpjebgiejkglpaa

section
variable {S K : Type} (start : S) (next : S → Nat → Option S) (key : S → K)

/-- The states that can be reached. -/
inductive Reach : S → Prop
  | start : Reach start
  | step {s t : S} {i : Nat} (h : Reach s) (ht : next s i = some t) : Reach t

/-- Between two states taken up: work is still to be taken up, seen has been put there at some time. -/
structure SInv (work seen : List S) : Prop where
  st : start ∈ seen
  sub : ∀ s ∈ work, s ∈ seen
  rc : ∀ s ∈ seen, Reach start next s
  cl : ∀ s ∈ seen, s ∉ work → ∀ i t, next s i = some t → t ∈ seen
/-- While state s is taken up, its moves below k looked at. -/
structure SMid (s : S) (k : Nat) (work seen : List S) : Prop where
  st : start ∈ seen
  ms : s ∈ seen
  sub : ∀ s ∈ work, s ∈ seen
  rc : ∀ s ∈ seen, Reach start next s
  cl : ∀ u ∈ seen, u ≠ s → u ∉ work → ∀ i t, next u i = some t → t ∈ seen
  nx : ∀ (i : Nat) (t : S), i < k → next s i = some t → t ∈ seen

variable {start next key}

theorem SInv.init : SInv start next [start] [start] :=
  ⟨by simp, fun s h => h, fun s h => by simp at h; subst h; exact .start, fun s h h' => absurd h h'⟩
theorem SInv.enter {work work' seen : List S} {s : S} (h : SInv start next work seen) (hw : ∀ u, u ∈ work ↔ u = s ∨ u ∈ work') : SMid start next s 0 work' seen :=
  ⟨h.st, h.sub s ((hw s).2 (.inl rfl)), fun u hu => h.sub u ((hw u).2 (.inr hu)), h.rc, fun u hu hne hn => h.cl u hu (fun e => ((hw u).1 e).elim hne hn), fun i _ hi => absurd hi (Nat.not_lt_zero i)⟩
theorem SMid.skip {work seen : List S} {s : S} {k : Nat} (h : SMid start next s k work seen) (ht : next s k = none) : SMid start next s (k + 1) work seen :=
  ⟨h.st, h.ms, h.sub, h.rc, h.cl, fun i x hi hx => by
    rcases Nat.lt_or_ge i k with hik | hik
    · exact h.nx i x hik hx
    · obtain rfl : i = k := by omega
      rw [ht] at hx; cases hx⟩
theorem SMid.old {work seen : List S} {s t u : S} {k : Nat} (h : SMid start next s k work seen) (ht : next s k = some t) (hu : u ∈ seen) (he : key u = key t)
    (hk : ∀ a b, Reach start next a → Reach start next b → key a = key b → a = b) : SMid start next s (k + 1) work seen := by
  have hr : Reach start next t := .step (h.rc s h.ms) ht
  have e : u = t := hk u t (h.rc u hu) hr he
  refine ⟨h.st, h.ms, h.sub, h.rc, h.cl, fun i x hi hx => ?_⟩
  rcases Nat.lt_or_ge i k with hik | hik
  · exact h.nx i x hik hx
  · obtain rfl : i = k := by omega
    rw [ht] at hx
    simp only [Option.some.injEq] at hx
    subst hx
    exact e ▸ hu
theorem SMid.new {work work' seen seen' : List S} {s t : S} {k : Nat} (h : SMid start next s k work seen) (ht : next s k = some t) (hw : ∀ u, u ∈ work' ↔ u = t ∨ u ∈ work) (hs : ∀ u, u ∈ seen' ↔ u = t ∨ u ∈ seen) : SMid start next s (k + 1) work' seen' := by
  have hr : Reach start next t := .step (h.rc s h.ms) ht
  have up : ∀ u, u ∈ seen → u ∈ seen' := fun u hu => (hs u).2 (.inr hu)
  refine ⟨up _ h.st, up _ h.ms, fun u hu => ?_, fun u hu => ?_, fun u hu hne hn j x hx => ?_, fun i x hi hx => ?_⟩
  · rcases (hw u).1 hu with e | e
    · exact (hs u).2 (.inl e)
    · exact up u (h.sub u e)
  · rcases (hs u).1 hu with e | e
    · exact e ▸ hr
    · exact h.rc u e
  · rcases (hs u).1 hu with e | e
    · exact absurd ((hw u).2 (.inl e)) hn
    · exact up x (h.cl u e hne (fun q => hn ((hw u).2 (.inr q))) j x hx)
  · rcases Nat.lt_or_ge i k with hik | hik
    · exact up x (h.nx i x hik hx)
    · obtain rfl : i = k := by omega
      rw [ht] at hx
      simp only [Option.some.injEq] at hx
      exact (hs x).2 (.inl hx.symm)
theorem SMid.leave {work seen : List S} {s : S} {k : Nat} (h : SMid start next s k work seen) (hk : ∀ i t, next s i = some t → i < k) : SInv start next work seen :=
  ⟨h.st, h.sub, h.rc, fun u hu hn i t ht => by
    by_cases e : u = s
    · subst e
      exact h.nx i t (hk i t ht) ht
    · exact h.cl u hu e hn i t ht⟩
/-- At the end all that can be reached has been seen. -/
theorem SInv.all {seen : List S} (h : SInv start next [] seen) (s : S) : s ∈ seen ↔ Reach start next s := by
  refine ⟨h.rc s, fun hr => ?_⟩
  induction hr with
  | start => exact h.st
  | step _ ht ih => exact h.cl _ ih (by simp) _ _ ht

/-- The measure of the work: every next state has a lower rank. -/
def wMs (B : Nat) (rank : S → Nat) (work : List S) : Nat := (work.map fun s => B ^ rank s).sum
theorem wMs_cons (B : Nat) (rank : S → Nat) (s : S) (work : List S) : wMs B rank (s :: work) = B ^ rank s + wMs B rank work := by simp [wMs]
theorem wMs_append (B : Nat) (rank : S → Nat) (xs ys : List S) : wMs B rank (xs ++ ys) = wMs B rank xs + wMs B rank ys := by simp [wMs, List.sum_append]
theorem wMs_next {B : Nat} {rank : S → Nat} {s : S} {new : List S} (hB : new.length < B) (hr : ∀ t ∈ new, rank t < rank s) : wMs B rank new < B ^ rank s := by
  have h1 : ∀ (l : List S), (∀ t ∈ l, rank t < rank s) → wMs B rank l ≤ l.length * B ^ (rank s - 1) := by
    intro l
    induction l with
    | nil => intro _; simp [wMs]
    | cons t l ih =>
      intro hl
      have h2 := ih fun u hu => hl u (by simp [hu])
      have h3 : B ^ rank t ≤ B ^ (rank s - 1) := Nat.pow_le_pow_right (by omega) (by have := hl t (by simp); omega)
      rw [wMs_cons, List.length_cons, Nat.add_mul, Nat.one_mul]
      omega
  cases new with
  | nil => simp only [wMs, List.map_nil, List.sum_nil]; exact Nat.pow_pos (by omega)
  | cons t l =>
    have h2 := hr t (by simp)
    have h3 := h1 (t :: l) hr
    have h4 : B ^ rank s = B * B ^ (rank s - 1) := by
      conv => lhs; rw [show rank s = (rank s - 1) + 1 by omega, Nat.pow_succ]
      exact Nat.mul_comm _ _
    have h5 : 0 < B ^ (rank s - 1) := Nat.pow_pos (by omega)
    have h6 : (t :: l).length * B ^ (rank s - 1) < B * B ^ (rank s - 1) := Nat.mul_lt_mul_of_pos_right hB h5
    omega
end

/-- Outcomes compared by their first difference. -/
def lexO : List Int → List Int → Int
  | x :: xs, y :: ys => if x < y then -1 else if y < x then 1 else lexO xs ys
  | _, _ => 0
theorem lexO_three (a b : List Int) : lexO a b = -1 ∨ lexO a b = 0 ∨ lexO a b = 1 := by
  induction a generalizing b with
  | nil => simp [lexO]
  | cons x a ih =>
    cases b with
    | nil => simp [lexO]
    | cons y b =>
      simp only [lexO]
      split
      · simp
      · split
        · simp
        · exact ih b
theorem lexO_eq {a b : List Int} (h : a.length = b.length) : lexO a b = 0 ↔ a = b := by
  induction a generalizing b with
  | nil => cases b <;> simp_all [lexO]
  | cons x a ih =>
    cases b with
    | nil => simp at h
    | cons y b =>
      have := ih (b := b) (by simpa using h)
      simp only [lexO, List.cons.injEq]
      split
      · constructor
        · intro h; omega
        · intro h; omega
      · split
        · constructor
          · intro h; omega
          · intro h; omega
        · rw [this]
          constructor
          · intro h; exact ⟨by omega, h⟩
          · intro h; exact h.2
theorem lexO_swap (a b : List Int) : lexO b a = - lexO a b := by
  induction a generalizing b with
  | nil => cases b <;> simp [lexO]
  | cons x a ih =>
    cases b with
    | nil => simp [lexO]
    | cons y b =>
      simp only [lexO]
      have := ih b
      repeat' split
      all_goals omega
theorem lexO_trans {n : Nat} {a b c : List Int} (ha : a.length = n) (hb : b.length = n) (hc : c.length = n) (h1 : lexO a b = -1) (h2 : lexO b c = -1) : lexO a c = -1 := by
  induction a generalizing b c n with
  | nil => simp [lexO] at h1
  | cons x a ih =>
    match b, c, hb, hc, h1, h2 with
    | [], _, _, _, h1, _ => simp [lexO] at h1
    | _ :: _, [], _, _, _, h2 => simp [lexO] at h2
    | y :: b, z :: c, hb, hc, h1, h2 =>
      simp only [List.length_cons] at ha hb hc
      simp only [lexO] at h1 h2 ⊢
      have hh := fun p q => ih (n := n - 1) (b := b) (c := c) (by omega) (by omega) (by omega) p q
      by_cases e1 : x < y
      · by_cases e2 : y < z
        · rw [if_pos (by omega)]
        · rw [if_neg e2] at h2
          by_cases e3 : z < y
          · rw [if_pos e3] at h2; omega
          · rw [if_pos (by omega)]
      · rw [if_neg e1] at h1
        by_cases e4 : y < x
        · rw [if_pos e4] at h1; omega
        · rw [if_neg e4] at h1
          by_cases e2 : y < z
          · rw [if_pos (by omega)]
          · rw [if_neg e2] at h2
            by_cases e3 : z < y
            · rw [if_pos e3] at h2; omega
            · rw [if_neg e3] at h2
              rw [if_neg (by omega), if_neg (by omega)]
              exact hh h1 h2

/-- Sorted lists of outcomes of n numbers, none twice. -/
structure OutsOk (n : Nat) (l : List (List Int)) : Prop where
  len : ∀ o ∈ l, o.length = n
  pw : l.Pairwise fun a b => lexO a b = -1
theorem outs_unique {n : Nat} : ∀ {xs ys : List (List Int)}, OutsOk n xs → OutsOk n ys → (∀ o, o ∈ xs ↔ o ∈ ys) → xs = ys := by
  have irr : ∀ a : List Int, lexO a a ≠ -1 := fun a h => by have := (lexO_eq (a := a) rfl).2 rfl; omega
  intro xs
  induction xs with
  | nil => intro ys _ _ h; cases ys with
    | nil => rfl
    | cons y ys => have := (h y).2 (by simp); simp at this
  | cons x xs ih =>
    intro ys hx hy h
    cases ys with
    | nil => have := (h x).1 (by simp); simp at this
    | cons y ys =>
      obtain ⟨px, pxs⟩ := List.pairwise_cons.1 hx.pw
      obtain ⟨py, pys⟩ := List.pairwise_cons.1 hy.pw
      have e : x = y := by
        rcases List.mem_cons.1 ((h x).1 (by simp)) with e | e
        · exact e
        · rcases List.mem_cons.1 ((h y).2 (by simp)) with e2 | e2
          · exact e2.symm
          · have h1 := py x e
            have h2 := px y e2
            have := lexO_swap x y
            omega
      subst e
      congr 1
      refine ih ⟨fun o ho => hx.len o (by simp [ho]), pxs⟩ ⟨fun o ho => hy.len o (by simp [ho]), pys⟩ fun o => ?_
      constructor
      · intro ho
        rcases List.mem_cons.1 ((h o).1 (by simp [ho])) with e | e
        · subst e; exact absurd (px o ho) (irr o)
        · exact e
      · intro ho
        rcases List.mem_cons.1 ((h o).2 (by simp [ho])) with e | e
        · subst e; exact absurd (py o ho) (irr o)
        · exact e

/-- An outcome is put into a sorted list, if it is not there yet. -/
def putO (o : List Int) : List (List Int) → List (List Int)
  | [] => [o]
  | x :: xs => if lexO x o = -1 then x :: putO o xs else if lexO x o = 0 then x :: xs else o :: x :: xs
theorem putO_mem {n : Nat} {o : List Int} (ho : o.length = n) : ∀ {l : List (List Int)}, (∀ x ∈ l, x.length = n) → ∀ y, y ∈ putO o l ↔ y = o ∨ y ∈ l := by
  intro l
  induction l with
  | nil => intro _ y; simp [putO]
  | cons x xs ih =>
    intro hl y
    have h1 := ih (fun z hz => hl z (by simp [hz])) y
    unfold putO
    split
    · rw [List.mem_cons, h1, List.mem_cons]
      constructor
      · rintro (h | h | h)
        · exact .inr (.inl h)
        · exact .inl h
        · exact .inr (.inr h)
      · rintro (h | h | h)
        · exact .inr (.inl h)
        · exact .inl h
        · exact .inr (.inr h)
    · split
      · rename_i h
        have e : x = o := (lexO_eq (by rw [hl x (by simp), ho])).1 h
        subst e
        simp
      · simp [List.mem_cons]
theorem putO_ok {n : Nat} {o : List Int} (ho : o.length = n) : ∀ {l : List (List Int)}, OutsOk n l → OutsOk n (putO o l) := by
  intro l
  induction l with
  | nil => intro _; exact ⟨fun x hx => by simp [putO] at hx; subst hx; exact ho, by simp [putO]⟩
  | cons x xs ih =>
    intro hl
    obtain ⟨px, pxs⟩ := List.pairwise_cons.1 hl.pw
    have hxs : OutsOk n xs := ⟨fun z hz => hl.len z (by simp [hz]), pxs⟩
    have hx := hl.len x (by simp)
    refine ⟨fun y hy => ?_, ?_⟩
    · rcases (putO_mem ho hl.len y).1 hy with e | e
      · rw [e]; exact ho
      · exact hl.len y e
    · unfold putO
      split
      · rename_i h
        refine List.pairwise_cons.2 ⟨fun y hy => ?_, (ih hxs).pw⟩
        rcases (putO_mem ho hxs.len y).1 hy with e | e
        · rw [e]; exact h
        · exact px y e
      · rename_i h1
        split
        · exact hl.pw
        · rename_i h2
          have h3 := lexO_three x o
          have h4 := lexO_swap x o
          have h5 : lexO o x = -1 := by omega
          refine List.pairwise_cons.2 ⟨fun y hy => ?_, hl.pw⟩
          rcases List.mem_cons.1 hy with e | e
          · rw [e]; exact h5
          · exact lexO_trans ho hx (hxs.len y e) h5 (px y e)

end Go.Proofs.Ytpjebgiejkglpaa

namespace Go.Proofs.Ytpjebgiejkglpaa
open Go.RowKit

/-- What the order's rule asks of operation i: it has not come, and what it waits for has. -/
structure MayCome (md : Region.Mode) (ops : Array Oper) (listed : Array Bool) (i : Nat) (o : Oper) : Prop where
  op : ops[i]? = some o
  new : listed[i]? = some false
  after : ∀ e ∈ o.after, Region.binds md e = true → listed[e.on]? = some true

theorem ready_spec {md : Region.Mode} {ops : Array Oper} {listed : Array Bool} (hs : listed.size = ops.size) {i : Nat} (h : i ∈ Region.ready md ops listed) : ∃ o, MayCome md ops listed i o := by
  unfold Region.ready at h
  rw [List.mem_filter] at h
  obtain ⟨h1, h2⟩ := h
  rw [List.mem_range] at h1
  rw [Bool.and_eq_true] at h2
  obtain ⟨h2, h3⟩ := h2
  rw [Array.getElem?_eq_getElem h1] at h3
  refine ⟨ops[i], Array.getElem?_eq_getElem h1, ?_, fun e he hb => ?_⟩
  · rw [Array.getElem?_eq_getElem (by omega)]
    have : listed.getD i true = listed[i]'(by omega) := by simp [Array.getD, show i < listed.size by omega]
    rw [this] at h2
    simpa using h2
  · simp only [Option.map_some, Option.getD_some, Array.all_eq_true'] at h3
    have h4 := h3 e he
    rw [hb] at h4
    simp only [Bool.not_true, Bool.false_or] at h4
    by_cases hl : e.on < listed.size
    · rw [Array.getElem?_eq_getElem hl]
      have : listed.getD e.on false = listed[e.on] := by simp [Array.getD, hl]
      rw [this] at h4; rw [h4]
    · have : listed.getD e.on false = false := by simp [Array.getD, hl]
      rw [this] at h4; cases h4

/-- Each operation waits for earlier ones alone. -/
def earlier (ops : Array Oper) : Bool := (List.range ops.size).all fun i => (ops[i]?.map fun o => o.after.all fun e => decide (e.on < i)).getD true

theorem ready_nil {md : Region.Mode} {ops : Array Oper} {listed : Array Bool} (hs : listed.size = ops.size) (he : earlier ops = true) (h : Region.ready md ops listed = []) : ∀ i, i < ops.size → listed[i]? = some true := by
  intro i
  induction i using Nat.strongRecOn with
  | ind i ih =>
    intro hi
    rw [Array.getElem?_eq_getElem (by omega)]
    by_cases e : listed[i]'(by omega) = true
    · rw [e]
    · exfalso
      have hm : i ∈ Region.ready md ops listed := by
        unfold Region.ready
        rw [List.mem_filter, List.mem_range]
        refine ⟨hi, ?_⟩
        rw [Bool.and_eq_true]
        refine ⟨?_, ?_⟩
        · have : listed.getD i true = listed[i]'(by omega) := by simp [Array.getD, show i < listed.size by omega]
          rw [this]; simpa using e
        · rw [Array.getElem?_eq_getElem hi]
          simp only [Option.map_some, Option.getD_some, Array.all_eq_true']
          intro x hx
          unfold earlier at he
          rw [List.all_eq_true] at he
          have h1 := he i (by simpa using hi)
          rw [Array.getElem?_eq_getElem hi] at h1
          simp only [Option.map_some, Option.getD_some, Array.all_eq_true'] at h1
          have h2 := h1 x hx
          simp only [decide_eq_true_eq] at h2
          have h3 := ih x.on h2 (by omega)
          have : listed.getD x.on false = true := by
            have hl : x.on < listed.size := by omega
            rw [Array.getElem?_eq_getElem hl] at h3
            simp only [Option.some.injEq] at h3
            simp [Array.getD, hl, h3]
          rw [this, Bool.or_true]
      rw [h] at hm; cases hm

def falses (l : Array Bool) : Nat := l.toList.countP fun b => !b

theorem falses_set {l : Array Bool} {i : Nat} (h : l[i]? = some false) : falses (l.setIfInBounds i true) + 1 = falses l := by
  unfold falses
  rw [Array.toList_setIfInBounds]
  have h' : l.toList[i]? = some false := by rw [Array.getElem?_toList]; exact h
  obtain ⟨h1, h2⟩ := List.getElem?_eq_some_iff.1 h'
  generalize l.toList = L at *
  clear h h' l
  induction L generalizing i with
  | nil => simp at h1
  | cons x L ih =>
    cases i with
    | zero => simp at h2; subst h2; simp
    | succ i =>
      simp at h1 h2
      have := ih h1 h2
      simp only [List.set_cons_succ, List.countP_cons]
      omega

theorem falses_zero {l : Array Bool} (h : falses l = 0) (i : Nat) : l[i]? ≠ some false := by
  intro e
  have := falses_set e
  omega

variable {F : Fence} {n : Nat} {P : Program} {ops : Array Oper} {Q : Exit → Act → World → Prop}

theorem wpAnyIn_inv {md : Region.Mode} (I : Array Bool → Act → World → Prop) (he : earlier ops = true)
    (hstep : ∀ (listed : Array Bool) (a : Act) (w : World), listed.size = ops.size → I listed a w → ∀ (i : Nat) (o : Oper), MayCome md ops listed i o → ∀ K : Act → World → Prop, (∀ a' w', I (listed.setIfInBounds i true) a' w' → K a' w') →
      if Region.wanted o (yielded ops a.tmps) = true then Oper.wpIn F n P o a w K Q else (∀ f, o.about P w a.eval = some f → F.fn f) ∧ K (a.put o.dst undef) w)
    (hend : ∀ (listed : Array Bool) (a : Act) (w : World), (∀ i, i < ops.size → listed[i]? = some true) → I listed a w → Q .normal a w) :
    ∀ (fuel : Nat) (listed : Array Bool) (a : Act) (w : World), listed.size = ops.size → falses listed ≤ fuel → I listed a w → wpAnyIn F n P md ops Q fuel listed a w := by
  intro fuel
  induction fuel with
  | zero =>
    intro listed a w hs hf hi
    have hr : Region.ready md ops listed = [] := by
      rcases hq : Region.ready md ops listed with _ | ⟨i, rest⟩
      · rfl
      · exfalso
        obtain ⟨o, ho⟩ := ready_spec hs (i := i) (by rw [hq]; simp)
        exact falses_zero (by omega) i ho.new
    exact ⟨hr, hend listed a w (ready_nil hs he hr) hi⟩
  | succ fuel ih =>
    intro listed a w hs hf hi
    refine ⟨fun hr => hend listed a w (ready_nil hs he hr) hi, fun i hm => ?_⟩
    obtain ⟨o, ho⟩ := ready_spec hs hm
    have hK := hstep listed a w hs hi i o ho (wpAnyIn F n P md ops Q fuel (listed.setIfInBounds i true)) (fun a' w' h => ih _ a' w' (by simp [hs]) (by have := falses_set ho.new; omega) h)
    unfold wpOpIn
    rw [ho.op]
    simp only
    exact hK

/-- A region that draws its order, by an invariant. -/
theorem wpIn_region_inv {id : Nat} {a : Act} {w : World} (hm : P.follows .mixedOrders = true) (I : Array Bool → Act → World → Prop) (he : earlier ops = true)
    (h0 : I (Array.replicate ops.size false) a w.drew)
    (hstep : ∀ (listed : Array Bool) (a : Act) (w : World), listed.size = ops.size → I listed a w → ∀ (i : Nat) (o : Oper), MayCome .any ops listed i o → ∀ K : Act → World → Prop, (∀ a' w', I (listed.setIfInBounds i true) a' w' → K a' w') →
      if Region.wanted o (yielded ops a.tmps) = true then Oper.wpIn F n P o a w K Q else (∀ f, o.about P w a.eval = some f → F.fn f) ∧ K (a.put o.dst undef) w)
    (hend : ∀ (listed : Array Bool) (a : Act) (w : World), (∀ i, i < ops.size → listed[i]? = some true) → I listed a w → Q .normal a w) :
    (Code.region id ops true).wpIn F n P Q a w :=
  wpIn_region_any hm (wpAnyIn_inv I he hstep hend ops.size _ a _ (by simp) (by unfold falses; refine Nat.le_trans List.countP_le_length ?_; simp) h0)

end Go.Proofs.Ytpjebgiejkglpaa

namespace Go.Proofs.Ytpjebgiejkglpaa
open Go.RowKit

section
variable {P : Program} {ops : Array Oper} {Q : Exit → Act → World → Prop}

theorem wpAny_invR {md : Region.Mode} (I : Array Bool → Act → World → Prop) (he : earlier ops = true)
    (hstep : ∀ (listed : Array Bool) (a : Act) (w : World), listed.size = ops.size → I listed a w → ∀ (i : Nat) (o : Oper), MayCome md ops listed i o → ∀ K : Act → World → Prop, (∀ a' w', I (listed.setIfInBounds i true) a' w' → K a' w') →
      if Region.wanted o (yielded ops a.tmps) = true then Oper.wp P o a w K Q else K (a.put o.dst undef) w)
    (hend : ∀ (listed : Array Bool) (a : Act) (w : World), (∀ i, i < ops.size → listed[i]? = some true) → I listed a w → Q .normal a w) :
    ∀ (fuel : Nat) (listed : Array Bool) (a : Act) (w : World), listed.size = ops.size → falses listed ≤ fuel → I listed a w → wpAny P md ops Q fuel listed a w := by
  intro fuel
  induction fuel with
  | zero =>
    intro listed a w hs hf hi
    have hr : Region.ready md ops listed = [] := by
      rcases hq : Region.ready md ops listed with _ | ⟨i, rest⟩
      · rfl
      · exfalso
        obtain ⟨o, ho⟩ := ready_spec hs (i := i) (by rw [hq]; simp)
        exact falses_zero (by omega) i ho.new
    exact ⟨hr, hend listed a w (ready_nil hs he hr) hi⟩
  | succ fuel ih =>
    intro listed a w hs hf hi
    refine ⟨fun hr => hend listed a w (ready_nil hs he hr) hi, fun i hm => ?_⟩
    obtain ⟨o, ho⟩ := ready_spec hs hm
    have hK := hstep listed a w hs hi i o ho (wpAny P md ops Q fuel (listed.setIfInBounds i true)) (fun a' w' h => ih _ a' w' (by simp [hs]) (by have := falses_set ho.new; omega) h)
    unfold wpOp
    rw [ho.op]
    simp only
    split
    · rename_i hw
      rw [if_pos hw] at hK
      exact .inl hK
    · rename_i hw
      rw [if_neg hw] at hK
      exact hK

/-- The last operation waits for all others. -/
def lastWaits (ops : Array Oper) (n : Nat) : Bool := (List.range n).all fun i => (ops[n]?.map fun o => o.after.any fun e => e.on == i && Region.binds .any e).getD false

/-- A region that draws its order, by an invariant, its last operation by itself. -/
theorem wp_region_inv {id n : Nat} {a : Act} {w : World} (hm : P.follows .mixedOrders = true) (hn : ops.size = n + 1) (he : earlier ops = true) (hlw : lastWaits ops n = true) (I : Act → Array Bool → Act → World → Prop)
    (h0 : I a (Array.replicate (n + 1) false) a w.drew)
    (hstep : ∀ (ls : Array Bool) (a' : Act) (w' : World), ls.size = n + 1 → ls[n]? = some false → I a ls a' w' → ∀ (i : Nat) (o : Oper), i < n → MayCome .any ops ls i o → ∀ K : Act → World → Prop, (∀ a'' w'', I a (ls.setIfInBounds i true) a'' w'' → K a'' w'') →
      if Region.wanted o (yielded ops a'.tmps) = true then Oper.wp P o a' w' K Q else K (a'.put o.dst undef) w')
    (hlast : ∀ (ls : Array Bool) (a' : Act) (w' : World), (∀ i, i < n → ls[i]? = some true) → I a ls a' w' → ∀ o, ops[n]? = some o →
      if Region.wanted o (yielded ops a'.tmps) = true then Oper.wp P o a' w' (fun a'' w'' => Q .normal a'' w'') Q else Q .normal (a'.put o.dst undef) w') :
    (Code.region id ops true).wp P Q a w := by
  refine wp_region_any hm (wpAny_invR (fun ls a' w' => (ls[n]? = some false ∧ I a ls a' w') ∨ (ls[n]? = some true ∧ (∀ i, i < n → ls[i]? = some true) ∧ Q .normal a' w')) he ?_ ?_ ops.size _ a _ (by simp) (by unfold falses; refine Nat.le_trans List.countP_le_length ?_; simp) (.inl ⟨by simp [hn], by rw [hn]; exact h0⟩))
  · intro ls a' w' hs hI i o mc K hK
    rcases hI with ⟨hf, hI⟩ | ⟨ht, hal, hQ⟩
    · by_cases hi : i = n
      · subst hi
        have hall : ∀ j, j < i → ls[j]? = some true := fun j hj => by
          unfold lastWaits at hlw
          rw [List.all_eq_true] at hlw
          have h1 := hlw j (List.mem_range.2 hj)
          rw [mc.op] at h1
          simp only [Option.map_some, Option.getD_some, Array.any_eq_true'] at h1
          obtain ⟨e, he1, he2⟩ := h1
          rw [Bool.and_eq_true] at he2
          have h3 := mc.after e he1 he2.2
          have h4 : e.on = j := by simpa using he2.1
          rw [h4] at h3; exact h3
        have h := hlast ls a' w' hall hI o mc.op
        have hset : (ls.setIfInBounds i true)[i]? = some true := by
          rw [Array.getElem?_setIfInBounds]; simp [hs, hn]
        have hall2 : ∀ j, j < i → (ls.setIfInBounds i true)[j]? = some true := fun j hj => by
          rw [Array.getElem?_setIfInBounds, if_neg (by omega)]; exact hall j hj
        split
        · rename_i hw
          rw [if_pos hw] at h
          exact Oper.wp_mono (fun a2 w2 h2 => hK a2 w2 (.inr ⟨hset, hall2, h2⟩)) h
        · rename_i hw
          rw [if_neg hw] at h
          exact hK _ _ (.inr ⟨hset, hall2, h⟩)
      · have hlt : i < n := by
          have := (Array.getElem?_eq_some_iff.1 mc.op).1
          omega
        have h := hstep ls a' w' (by rw [hs, hn]) hf hI i o hlt mc K (fun a2 w2 h2 => hK a2 w2 (.inl ⟨by rw [Array.getElem?_setIfInBounds]; simp [hi]; exact hf, h2⟩))
        exact h
    · exfalso
      by_cases hi : i = n
      · subst hi; rw [mc.new] at ht; cases ht
      · have hlt : i < n := by
          have := (Array.getElem?_eq_some_iff.1 mc.op).1
          omega
        have := hal i hlt
        rw [mc.new] at this; cases this
  · intro ls a' w' hall hI
    rcases hI with ⟨hf, -⟩ | ⟨-, -, hQ⟩
    · have := hall n (by omega)
      rw [hf] at this; cases this
    · exact hQ
end

/-- Values laid into slots. -/
def putAll (a : Act) : List (Tmp × Value) → Act
  | [] => a
  | (d, v) :: l => putAll (a.put (some d) v) l

/-- Operation k, if it has come, has put v, and what it waits for has come. -/
def Vd (ls : Array Bool) (k : Nat) (D : List Nat) (x v : Value) : Prop := ls[k]? = some true → (∀ d ∈ D, ls[d]? = some true) ∧ x = v
theorem ls_set {ls : Array Bool} {i j : Nat} (h : i ≠ j) : (ls.setIfInBounds i true)[j]? = ls[j]? := by
  rw [Array.getElem?_setIfInBounds, if_neg h]
theorem ls_got {ls : Array Bool} {i : Nat} (h : i < ls.size) : (ls.setIfInBounds i true)[i]? = some true := by
  rw [Array.getElem?_setIfInBounds, if_pos rfl, if_pos h]
theorem ls_keep {ls : Array Bool} {i j : Nat} (h : ls[j]? = some true) : (ls.setIfInBounds i true)[j]? = some true := by
  by_cases e : i = j
  · subst e; exact ls_got (Array.getElem?_eq_some_iff.1 h).1
  · rw [ls_set e]; exact h
theorem Vd.start {n k : Nat} {D : List Nat} {x v : Value} : Vd (Array.replicate n false) k D x v := fun h => by
  rw [Array.getElem?_replicate] at h; split at h <;> simp at h
theorem Vd.set {ls : Array Bool} {i k : Nat} {D : List Nat} {x v : Value} (h : Vd ls k D x v) (hik : i ≠ k) : Vd (ls.setIfInBounds i true) k D x v := fun e => by
  rw [ls_set hik] at e
  exact ⟨fun d hd => ls_keep ((h e).1 d hd), (h e).2⟩
theorem Vd.same {ls : Array Bool} {k : Nat} {D : List Nat} {v : Value} (hD : ∀ d ∈ D, ls[d]? = some true) : Vd (ls.setIfInBounds k true) k D v v := fun _ => ⟨fun d hd => ls_keep (hD d hd), rfl⟩
theorem Vd.void {ls : Array Bool} {i k : Nat} {D : List Nat} {x v v' : Value} (h : Vd ls k D x v) (hd : i ∈ D) (hik : i ≠ k) (hn : ls[i]? = some false) : Vd (ls.setIfInBounds i true) k D x v' := fun e => by
  rw [ls_set hik] at e
  have := (h e).1 i hd
  rw [hn] at this; cases this
theorem Vd.get {ls : Array Bool} {k : Nat} {D : List Nat} {x v : Value} (h : Vd ls k D x v) (e : ls[k]? = some true) : x = v := (h e).2

/-- Whether operation k has come. -/
def fl (ls : Array Bool) (k : Nat) : Bool := ls[k]? == some true
theorem fl_start {n k : Nat} : fl (Array.replicate n false) k = false := by
  unfold fl; rw [Array.getElem?_replicate]; split <;> simp
theorem fl_set {ls : Array Bool} {i k : Nat} (h : i ≠ k) : fl (ls.setIfInBounds i true) k = fl ls k := by unfold fl; rw [ls_set h]
theorem fl_got {ls : Array Bool} {n k : Nat} (hs : ls.size = n + 1) (h : k < n) : fl (ls.setIfInBounds k true) k = true := by unfold fl; rw [ls_got (by omega)]; rfl
theorem fl_no {ls : Array Bool} {k : Nat} (h : ls[k]? = some false) : fl ls k = false := by unfold fl; rw [h]; rfl
theorem fl_yes {ls : Array Bool} {k : Nat} (h : ls[k]? = some true) : fl ls k = true := by unfold fl; rw [h]; rfl

end Go.Proofs.Ytpjebgiejkglpaa

namespace Go.Proofs.Ytpjebgiejkglpaa
open Go.RowKit

section
variable {P : Program} {ops : Array Oper} {Q : Exit → Act → World → Prop}

/-- What an operation waited for has come. -/
def ClosedL (ops : Array Oper) (ls : Array Bool) : Prop := ∀ (i : Nat) (o : Oper), ls[i]? = some true → ops[i]? = some o → ∀ e ∈ o.after, Region.binds .any e = true → ls[e.on]? = some true
theorem ClosedL.start (ops : Array Oper) (n : Nat) : ClosedL ops (Array.replicate n false) := fun i o h => by
  rw [Array.getElem?_replicate] at h; split at h <;> simp at h
theorem ClosedL.set {ls : Array Bool} {i : Nat} {o : Oper} (h : ClosedL ops ls) (mc : MayCome .any ops ls i o) : ClosedL ops (ls.setIfInBounds i true) := by
  intro j o' hj ho e he hb
  have hk : ∀ q, ls[q]? = some true → (ls.setIfInBounds i true)[q]? = some true := fun q hq => ls_keep hq
  by_cases hij : i = j
  · subst hij
    rw [mc.op] at ho
    obtain rfl := Option.some.inj ho
    exact hk _ (mc.after e he hb)
  · rw [ls_set hij] at hj
    exact hk _ (h j o' hj ho e he hb)
/-- Every operation but the last is waited for. -/
def waitsAll (ops : Array Oper) (n : Nat) : Bool := (List.range n).all fun j => (List.range (n + 1)).any fun i => decide (j < i) && (ops[i]?.map fun o => o.after.any fun e => e.on == j && Region.binds .any e).getD false
theorem waits_all {n : Nat} {ls : Array Bool} {o : Oper} (hw : waitsAll ops n = true) (hc : ClosedL ops ls) (mc : MayCome .any ops ls n o) : ∀ j, j < n → ls[j]? = some true := by
  have key : ∀ d j, j < n → n - j ≤ d → ls[j]? = some true := by
    intro d
    induction d with
    | zero => intro j h1 h2; omega
    | succ d ih =>
      intro j hj hd
      unfold waitsAll at hw
      rw [List.all_eq_true] at hw
      have h1 := hw j (List.mem_range.2 hj)
      rw [List.any_eq_true] at h1
      obtain ⟨i, hi, h1⟩ := h1
      rw [List.mem_range] at hi
      rw [Bool.and_eq_true, decide_eq_true_eq] at h1
      obtain ⟨hji, h1⟩ := h1
      cases ho : ops[i]? with
      | none => rw [ho] at h1; simp at h1
      | some oi =>
        rw [ho] at h1
        simp only [Option.map_some, Option.getD_some, Array.any_eq_true'] at h1
        obtain ⟨e, he1, he2⟩ := h1
        rw [Bool.and_eq_true] at he2
        have h4 : e.on = j := by simpa using he2.1
        by_cases hin : i = n
        · subst hin
          rw [mc.op] at ho
          obtain rfl := Option.some.inj ho
          have h3 := mc.after e he1 he2.2
          rw [h4] at h3; exact h3
        · have h3 := hc i oi (ih i (by omega) (by omega)) ho e he1 he2.2
          rw [h4] at h3; exact h3
  exact fun j hj => key (n - j) j hj (Nat.le_refl _)

/-- A region that draws its order, by an invariant, its last operation by itself. -/
theorem wp_region_inv3 {id n : Nat} {a : Act} {w : World} (hm : P.follows .mixedOrders = true) (hn : ops.size = n + 1) (he : earlier ops = true) (hlw : waitsAll ops n = true) (I : Act → Array Bool → Act → World → Prop)
    (h0 : I a (Array.replicate (n + 1) false) a w.drew)
    (hstep : ∀ (ls : Array Bool) (a' : Act) (w' : World), ls.size = n + 1 → ls[n]? = some false → I a ls a' w' → ∀ (i : Nat) (o : Oper), i < n → MayCome .any ops ls i o → ∀ K : Act → World → Prop, (∀ a'' w'', I a (ls.setIfInBounds i true) a'' w'' → K a'' w'') →
      if Region.wanted o (yielded ops a'.tmps) = true then Oper.wp P o a' w' K Q else K (a'.put o.dst undef) w')
    (hlast : ∀ (ls : Array Bool) (a' : Act) (w' : World), (∀ i, i < n → ls[i]? = some true) → I a ls a' w' → ∀ o, ops[n]? = some o →
      if Region.wanted o (yielded ops a'.tmps) = true then Oper.wp P o a' w' (fun a'' w'' => Q .normal a'' w'') Q else Q .normal (a'.put o.dst undef) w') :
    (Code.region id ops true).wp P Q a w := by
  refine wp_region_any hm (wpAny_invR (fun ls a' w' => ClosedL ops ls ∧ ((ls[n]? = some false ∧ I a ls a' w') ∨ (ls[n]? = some true ∧ (∀ i, i < n → ls[i]? = some true) ∧ Q .normal a' w'))) he ?_ ?_ ops.size _ a _ (by simp) (by unfold falses; refine Nat.le_trans List.countP_le_length ?_; simp) ⟨ClosedL.start _ _, .inl ⟨by simp [hn], by rw [hn]; exact h0⟩⟩)
  · intro ls a' w' hs hI i o mc K hK
    obtain ⟨hcl, hI⟩ := hI
    have hcl2 := hcl.set mc
    rcases hI with ⟨hf, hI⟩ | ⟨ht, hal, hQ⟩
    · by_cases hi : i = n
      · subst hi
        have hall : ∀ j, j < i → ls[j]? = some true := waits_all hlw hcl mc
        have h := hlast ls a' w' hall hI o mc.op
        have hset : (ls.setIfInBounds i true)[i]? = some true := by
          rw [Array.getElem?_setIfInBounds]; simp [hs, hn]
        have hall2 : ∀ j, j < i → (ls.setIfInBounds i true)[j]? = some true := fun j hj => by
          rw [Array.getElem?_setIfInBounds, if_neg (by omega)]; exact hall j hj
        split
        · rename_i hw
          rw [if_pos hw] at h
          exact Oper.wp_mono (fun a2 w2 h2 => hK a2 w2 ⟨hcl2, .inr ⟨hset, hall2, h2⟩⟩) h
        · rename_i hw
          rw [if_neg hw] at h
          exact hK _ _ ⟨hcl2, .inr ⟨hset, hall2, h⟩⟩
      · have hlt : i < n := by
          have := (Array.getElem?_eq_some_iff.1 mc.op).1
          omega
        have h := hstep ls a' w' (by rw [hs, hn]) hf hI i o hlt mc K (fun a2 w2 h2 => hK a2 w2 ⟨hcl2, .inl ⟨by rw [Array.getElem?_setIfInBounds]; simp [hi]; exact hf, h2⟩⟩)
        exact h
    · exfalso
      by_cases hi : i = n
      · subst hi; rw [mc.new] at ht; cases ht
      · have hlt : i < n := by
          have := (Array.getElem?_eq_some_iff.1 mc.op).1
          omega
        have := hal i hlt
        rw [mc.new] at this; cases this
  · intro ls a' w' hall hI
    rcases hI.2 with ⟨hf, -⟩ | ⟨-, -, hQ⟩
    · have := hall n (by omega)
      rw [hf] at this; cases this
    · exact hQ
end

end Go.Proofs.Ytpjebgiejkglpaa

namespace Go.Proofs.Ytpjebgiejkglpaa

/-- How far the threads are, registers, memory. -/
structure Sq where
  pc : List Int
  rg : List Int
  mm : List Int
def sqStart (p : List (List Ins)) : Sq := ⟨List.replicate p.length 0, List.replicate (p.length * 3) 0, List.replicate 3 0⟩
/-- What instruction x writes. -/
def sqVal (s : Sq) (t : Nat) (x : Ins) : Int := if x.op = 3 then s.rg.getD (t * 3 + x.reg.toNat) 0 else x.val
/-- Instruction x of thread t, at k. -/
def sqDo (s : Sq) (t : Nat) (k : Int) (x : Ins) : Sq :=
  ⟨s.pc.set t (k + 1), if isRop x.op = true then s.rg.set (t * 3 + x.reg.toNat) (s.mm.getD x.loc.toNat 0) else s.rg, if isWop x.op = true then s.mm.set x.loc.toNat (sqVal s t x) else s.mm⟩
/-- The next state when thread t moves. -/
def sqNext (p : List (List Ins)) (s : Sq) (t : Nat) : Option Sq :=
  match p[t]?, s.pc[t]? with
  | some r, some k => match r[k.toNat]? with
    | some x => some (sqDo s t k x)
    | none => none
  | _, _ => none
def sqOut (s : Sq) : List Int := s.rg ++ s.mm

/-- A state as it can be: lengths and ranges. -/
structure SqOk (p : List (List Ins)) (s : Sq) : Prop where
  lp : s.pc.length = p.length
  lr : s.rg.length = p.length * 3
  lm : s.mm.length = 3
  pc : ∀ (t : Nat) (k : Int) (r : List Ins), s.pc[t]? = some k → p[t]? = some r → 0 ≤ k ∧ k ≤ r.length
  rg : ∀ x ∈ s.rg, 0 ≤ x ∧ x ≤ 3
  mm : ∀ x ∈ s.mm, 0 ≤ x ∧ x ≤ 3

theorem SqOk.start (p : List (List Ins)) : SqOk p (sqStart p) :=
  ⟨by simp [sqStart], by simp [sqStart], by simp [sqStart], fun t k r h _ => by
    simp only [sqStart, List.getElem?_replicate] at h
    split at h
    · simp at h; subst h; omega
    · simp at h, fun x hx => by simp [sqStart] at hx; omega, fun x hx => by simp [sqStart] at hx; omega⟩

theorem getD_range {l : List Int} (h : ∀ x ∈ l, 0 ≤ x ∧ x ≤ 3) (k : Nat) : 0 ≤ l.getD k 0 ∧ l.getD k 0 ≤ 3 := by
  rw [List.getD_eq_getElem?_getD]
  cases hk : l[k]? with
  | none => simp
  | some x => simpa using h x (List.mem_of_getElem? hk)
theorem set_range {l : List Int} (h : ∀ x ∈ l, 0 ≤ x ∧ x ≤ 3) {v : Int} (hv : 0 ≤ v ∧ v ≤ 3) (k : Nat) : ∀ x ∈ l.set k v, 0 ≤ x ∧ x ≤ 3 := fun x hx => by
  rcases List.mem_or_eq_of_mem_set hx with e | e
  · exact h x e
  · rw [e]; exact hv
theorem val_range {s : Sq} {t : Nat} {x : Ins} (h : ∀ y ∈ s.rg, 0 ≤ y ∧ y ≤ 3) (hx : insValid x = true) (hw : isWop x.op = true) : 0 ≤ sqVal s t x ∧ sqVal s t x ≤ 3 := by
  unfold sqVal
  split
  · exact getD_range h _
  · rename_i h3
    unfold isWop at hw
    unfold insValid inB at hx
    simp only [Bool.or_eq_true, beq_iff_eq] at hw
    rcases hw with (hw | hw) | hw
    · simp [hw] at hx; omega
    · exact absurd hw h3
    · simp [hw] at hx; omega

theorem sqNext_parts {p : List (List Ins)} {s s' : Sq} {t : Nat} (h : sqNext p s t = some s') : ∃ r k x, p[t]? = some r ∧ s.pc[t]? = some k ∧ r[k.toNat]? = some x ∧ s' = sqDo s t k x := by
  unfold sqNext at h
  split at h
  · rename_i r k hr hk
    split at h
    · rename_i x hx
      simp only [Option.some.injEq] at h
      exact ⟨r, k, x, hr, hk, hx, h.symm⟩
    · cases h
  · cases h
theorem SqOk.next {p : List (List Ins)} {s s' : Sq} {t : Nat} (h : SqOk p s) (hp : ∀ r ∈ p, ∀ x ∈ r, insValid x = true) (hn : sqNext p s t = some s') : SqOk p s' := by
  obtain ⟨r, k, x, hr, hk, hx, rfl⟩ := sqNext_parts hn
  have hv := hp r (List.mem_of_getElem? hr) x (List.mem_of_getElem? hx)
  have hk0 := h.pc t k r hk hr
  have hlt := (List.getElem?_eq_some_iff.1 hx).1
  refine ⟨by simp [sqDo, h.lp], ?_, ?_, ?_, ?_, ?_⟩
  · unfold sqDo; simp only; split
    · rw [List.length_set]; exact h.lr
    · exact h.lr
  · unfold sqDo; simp only; split
    · rw [List.length_set]; exact h.lm
    · exact h.lm
  · intro t' k' r' h1 h2
    simp only [sqDo] at h1
    rw [List.getElem?_set] at h1
    by_cases e : t = t'
    · subst e
      rw [if_pos rfl] at h1
      split at h1
      · simp only [Option.some.injEq] at h1
        rw [hr] at h2
        simp only [Option.some.injEq] at h2
        subst h2; omega
      · cases h1
    · rw [if_neg e] at h1; exact h.pc t' k' r' h1 h2
  · unfold sqDo; simp only; split
    · exact set_range h.rg (getD_range h.mm _) _
    · exact h.rg
  · unfold sqDo; simp only; split
    · rename_i hw; exact set_range h.mm (val_range h.rg hv hw) _
    · exact h.mm

/-- What is left to do. -/
def sqLeft (p : List (List Ins)) (s : Sq) : Nat := ((List.range p.length).map fun t => (p.getD t []).length - (s.pc.getD t 0).toNat).sum
theorem sum_lt {f g : Nat → Nat} {t : Nat} : ∀ {n : Nat}, t < n → (∀ i, i ≠ t → f i = g i) → f t < g t → ((List.range n).map f).sum < ((List.range n).map g).sum := by
  intro n
  induction n with
  | zero => intro h; omega
  | succ n ih =>
    intro ht he hlt
    rw [List.range_succ, List.map_append, List.map_append, List.sum_append, List.sum_append]
    simp only [List.map_cons, List.map_nil, List.sum_cons, List.sum_nil]
    by_cases e : t = n
    · subst e
      have : ((List.range t).map f) = ((List.range t).map g) := List.map_congr_left fun i hi => he i (by have := List.mem_range.1 hi; omega)
      rw [this]; omega
    · have h1 := ih (by omega) he hlt
      have h2 := he n (fun q => e q.symm)
      omega
theorem sqLeft_next {p : List (List Ins)} {s s' : Sq} {t : Nat} (h : SqOk p s) (hn : sqNext p s t = some s') : sqLeft p s' < sqLeft p s := by
  obtain ⟨r, k, x, hr, hk, hx, rfl⟩ := sqNext_parts hn
  have ht := (List.getElem?_eq_some_iff.1 hr).1
  have ht2 := (List.getElem?_eq_some_iff.1 hk).1
  have hlt := (List.getElem?_eq_some_iff.1 hx).1
  have hk0 := h.pc t k r hk hr
  unfold sqLeft
  refine sum_lt (t := t) ht (fun i hi => ?_) ?_
  · simp only [sqDo, List.getD_eq_getElem?_getD]
    rw [List.getElem?_set, if_neg (fun e => hi e.symm)]
  · simp only [sqDo, List.getD_eq_getElem?_getD, hr, hk, Option.getD_some]
    rw [List.getElem?_set, if_pos rfl, if_pos ht2]
    simp only [Option.getD_some]
    omega

/-- The key of a state. -/
def sqKey (s : Sq) : List Int := s.pc ++ s.rg ++ s.mm
theorem sqKey_inj {p : List (List Ins)} {s s' : Sq} (h : SqOk p s) (h' : SqOk p s') (e : sqKey s = sqKey s') : s = s' := by
  unfold sqKey at e
  have e1 := List.append_inj e (by simp [h.lp, h.lr, h'.lp, h'.lr])
  have e2 := List.append_inj e1.1 (by rw [h.lp, h'.lp])
  cases s; cases s'
  simp only at e1 e2
  rw [e2.1, e2.2, e1.2]
theorem SqOk.reach {p : List (List Ins)} (hp : ∀ r ∈ p, ∀ x ∈ r, insValid x = true) {s : Sq} (h : Reach (sqStart p) (sqNext p) s) : SqOk p s := by
  induction h with
  | start => exact SqOk.start p
  | step _ ht ih => exact ih.next hp ht
theorem sqKey_reach {p : List (List Ins)} (hp : ∀ r ∈ p, ∀ x ∈ r, insValid x = true) (a b : Sq) (ha : Reach (sqStart p) (sqNext p) a) (hb : Reach (sqStart p) (sqNext p) b) (e : sqKey a = sqKey b) : a = b := sqKey_inj (SqOk.reach hp ha) (SqOk.reach hp hb) e

end Go.Proofs.Ytpjebgiejkglpaa

namespace Go.Proofs.Ytpjebgiejkglpaa

section
variable {S : Type} {start : S} {next : S → Nat → Option S} (done : S → Bool) (out : S → List Int) (n : Nat)

/-- The outcomes of the states that have been taken up. -/
structure OInv (taken : List S) (outs : List (List Int)) : Prop where
  ok : OutsOk n outs
  mem : ∀ o, o ∈ outs ↔ ∃ s ∈ taken, done s = true ∧ out s = o
/-- All of a search between two states. -/
structure SAll (start : S) (next : S → Nat → Option S) (work seen taken : List S) (outs : List (List Int)) : Prop where
  inv : SInv start next work seen
  o : OInv done out n taken outs
  t1 : ∀ s ∈ seen, s ∈ work ∨ s ∈ taken
  t2 : ∀ s ∈ taken, s ∈ seen

variable {done out n}
theorem OInv.nil : OInv done out n [] [] := ⟨⟨fun o h => by simp at h, .nil⟩, fun o => by simp⟩
theorem OInv.yes {taken : List S} {outs : List (List Int)} (h : OInv done out n taken outs) {s : S} (hd : done s = true) (hl : (out s).length = n) : OInv done out n (s :: taken) (putO (out s) outs) := by
  refine ⟨putO_ok hl h.ok, fun o => ?_⟩
  rw [putO_mem hl h.ok.len, h.mem]
  constructor
  · rintro (e | ⟨u, hu, h1, h2⟩)
    · exact ⟨s, by simp, hd, e.symm⟩
    · exact ⟨u, by simp [hu], h1, h2⟩
  · rintro ⟨u, hu, h1, h2⟩
    rcases List.mem_cons.1 hu with e | e
    · exact .inl (by rw [← h2, e])
    · exact .inr ⟨u, e, h1, h2⟩
theorem OInv.no {taken : List S} {outs : List (List Int)} (h : OInv done out n taken outs) {s : S} (hd : done s = false) : OInv done out n (s :: taken) outs := by
  refine ⟨h.ok, fun o => ?_⟩
  rw [h.mem]
  constructor
  · rintro ⟨u, hu, h1, h2⟩
    exact ⟨u, by simp [hu], h1, h2⟩
  · rintro ⟨u, hu, h1, h2⟩
    rcases List.mem_cons.1 hu with e | e
    · rw [e, hd] at h1; cases h1
    · exact ⟨u, e, h1, h2⟩
/-- At the end: the outcomes of the final states that can be reached. -/
theorem SAll.fin {seen taken : List S} {outs : List (List Int)} (h : SAll done out n start next [] seen taken outs) (o : List Int) : o ∈ outs ↔ ∃ s, Reach start next s ∧ done s = true ∧ out s = o := by
  rw [h.o.mem]
  constructor
  · rintro ⟨s, hs, h1, h2⟩
    exact ⟨s, h.inv.rc s (h.t2 s hs), h1, h2⟩
  · rintro ⟨s, hs, h1, h2⟩
    rcases h.t1 s ((h.inv.all s).2 hs) with e | e
    · simp at e
    · exact ⟨s, e, h1, h2⟩
/-- Two searches find the same list. -/
theorem SAll.same {seen taken seen' taken' : List S} {outs outs' : List (List Int)} (h : SAll done out n start next [] seen taken outs) (h' : SAll done out n start next [] seen' taken' outs') : outs = outs' :=
  outs_unique h.o.ok h'.o.ok fun o => (h.fin o).trans (h'.fin o).symm
end

def sqDone (p : List (List Ins)) (s : Sq) : Bool := (List.range p.length).all fun t => decide (¬ s.pc.getD t 0 < ((p.getD t []).length : Int))
theorem sq_more {p : List (List Ins)} {s : Sq} (h : SqOk p s) (hd : sqDone p s = false) : ∃ t s', sqNext p s t = some s' := by
  unfold sqDone at hd
  rw [List.all_eq_false] at hd
  obtain ⟨t, ht, hn⟩ := hd
  have htp := List.mem_range.1 ht
  obtain ⟨r, hr⟩ := get_of_lt (xs := p) htp
  obtain ⟨k, hk⟩ := get_of_lt (xs := s.pc) (k := t) (by rw [h.lp]; exact htp)
  have hk0 := h.pc t k r hk hr
  simp only [List.getD_eq_getElem?_getD, hr, hk, Option.getD_some, decide_eq_true_eq, Int.not_lt, Int.not_le] at hn
  obtain ⟨x, hx⟩ := get_of_lt (xs := r) (k := k.toNat) (by omega)
  exact ⟨t, sqDo s t k x, by unfold sqNext; simp [hr, hk, hx]⟩
theorem sq_final {p : List (List Ins)} (hp : ∀ r ∈ p, ∀ x ∈ r, insValid x = true) : ∃ s, Reach (sqStart p) (sqNext p) s ∧ sqDone p s = true := by
  have key : ∀ (m : Nat) (s : Sq), Reach (sqStart p) (sqNext p) s → sqLeft p s ≤ m → ∃ s, Reach (sqStart p) (sqNext p) s ∧ sqDone p s = true := by
    intro m
    induction m with
    | zero =>
      intro s hs hm
      cases hd : sqDone p s with
      | true => exact ⟨s, hs, hd⟩
      | false =>
        obtain ⟨t, s', h1⟩ := sq_more (SqOk.reach hp hs) hd
        have := sqLeft_next (SqOk.reach hp hs) h1
        omega
    | succ m ih =>
      intro s hs hm
      cases hd : sqDone p s with
      | true => exact ⟨s, hs, hd⟩
      | false =>
        obtain ⟨t, s', h1⟩ := sq_more (SqOk.reach hp hs) hd
        have := sqLeft_next (SqOk.reach hp hs) h1
        exact ih s' (.step hs h1) (by omega)
  exact key _ _ .start (Nat.le_refl _)
theorem sqOut_length {p : List (List Ins)} {s : Sq} (h : SqOk p s) : (sqOut s).length = p.length * 3 + 3 := by
  unfold sqOut; rw [List.length_append, h.lr, h.lm]
theorem sqOut_range {p : List (List Ins)} {s : Sq} (h : SqOk p s) : ∀ x ∈ sqOut s, 0 ≤ x ∧ x ≤ 3 := fun x hx => by
  unfold sqOut at hx
  rcases List.mem_append.1 hx with e | e
  · exact h.rg x e
  · exact h.mm x e

end Go.Proofs.Ytpjebgiejkglpaa

namespace Go.Proofs.Ytpjebgiejkglpaa

theorem sum_le_mul {f : Nat → Nat} {b : Nat} (h : ∀ i, f i ≤ b) : ∀ n, ((List.range n).map f).sum ≤ n * b := by
  intro n
  induction n with
  | zero => simp
  | succ n ih =>
    rw [List.range_succ, List.map_append, List.sum_append, Nat.add_mul]
    have := h n
    simp only [List.map_cons, List.map_nil, List.sum_cons, List.sum_nil]
    omega
theorem sqLeft_le {p : List (List Ins)} (h : progValid p = true) (s : Sq) : sqLeft p s ≤ 21 := by
  obtain ⟨h1, -, h2, -⟩ := valid_le h
  unfold sqLeft
  have h3 := sum_le_mul (f := fun t => (p.getD t []).length - (s.pc.getD t 0).toNat) (b := 7) (fun t => by
    show (p.getD t []).length - (s.pc.getD t 0).toNat ≤ 7
    have h4 : (p.getD t []).length ≤ 7 := by
      rw [List.getD_eq_getElem?_getD]
      cases hr : p[t]? with
      | none => simp
      | some r => exact (h2 r (List.mem_of_getElem? hr)).1
    omega) p.length
  have : p.length * 7 ≤ 3 * 7 := Nat.mul_le_mul_right _ h1
  omega
theorem valid_ins {p : List (List Ins)} (h : progValid p = true) : ∀ r ∈ p, ∀ x ∈ r, insValid x = true := fun r hr x hx => ((valid_le h).2.2.1 r hr).2 x hx

end Go.Proofs.Ytpjebgiejkglpaa

namespace Go.Proofs.Ytpjebgiejkglpaa
open Go.RowKit

/-- The place of the first element of which f says yes, or -1. -/
def IdxOf {α : Type} (f : α → Bool) (xs : List α) (q : Int) : Prop := (q = -1 ∧ ∀ x ∈ xs, f x = false) ∨ ∃ (t : Nat) (x : α), q = t ∧ xs[t]? = some x ∧ f x = true ∧ ∀ y ∈ xs.take t, f y = false

theorem none_succ {α : Type} {f : α → Bool} {xs : List α} {t : Nat} {x : α} (h : ∀ y ∈ xs.take t, f y = false) (hx : xs[t]? = some x) (hf : f x = false) : ∀ y ∈ xs.take (t + 1), f y = false := by
  intro y hy
  rw [List.take_add_one, hx] at hy
  simp at hy
  rcases hy with hy | rfl
  · exact h y hy
  · exact hf

theorem IdxOf.any {α : Type} {f : α → Bool} {xs : List α} {q : Int} (h : IdxOf f xs q) : decide (0 ≤ q) = xs.any f := by
  rcases h with ⟨rfl, h⟩ | ⟨t, x, rfl, hx, hf, -⟩
  · rw [List.any_eq_false.2 (fun x hx => by rw [h x hx]; simp)]; rfl
  · rw [List.any_eq_true.2 ⟨x, List.mem_of_getElem? hx, hf⟩]; simp

end Go.Proofs.Ytpjebgiejkglpaa

namespace Go.Proofs.Ytpjebgiejkglpaa

def encR : List Int → Nat
  | [] => 0
  | x :: xs => x.toNat * 4 ^ xs.length + encR xs
theorem encR_lt {l : List Int} (h : ∀ x ∈ l, 0 ≤ x ∧ x ≤ 3) : encR l < 4 ^ l.length := by
  induction l with
  | nil => simp [encR]
  | cons x l ih =>
    have h1 := ih fun y hy => h y (by simp [hy])
    have h2 := h x (by simp)
    have h3 : x.toNat * 4 ^ l.length ≤ 3 * 4 ^ l.length := Nat.mul_le_mul_right _ (by omega)
    simp only [encR, List.length_cons, Nat.pow_succ]
    omega
theorem encR_lex {a b : List Int} (hl : a.length = b.length) (ha : ∀ x ∈ a, 0 ≤ x ∧ x ≤ 3) (hb : ∀ x ∈ b, 0 ≤ x ∧ x ≤ 3) (h : lexO a b = -1) : encR a < encR b := by
  induction a generalizing b with
  | nil => simp [lexO] at h
  | cons x a ih =>
    cases b with
    | nil => simp at hl
    | cons y b =>
      have hl' : a.length = b.length := by simpa using hl
      have e1 := encR_lt (l := a) fun z hz => ha z (by simp [hz])
      have hx := ha x (by simp)
      have hy := hb y (by simp)
      simp only [lexO] at h
      simp only [encR]
      by_cases h1 : x < y
      · have h2 : (x.toNat + 1) * 4 ^ a.length ≤ y.toNat * 4 ^ a.length := Nat.mul_le_mul_right _ (by omega)
        rw [Nat.add_mul, Nat.one_mul] at h2
        rw [← hl']
        omega
      · rw [if_neg h1] at h
        by_cases h2 : y < x
        · rw [if_pos h2] at h; omega
        · rw [if_neg h2] at h
          have e : x = y := by omega
          subst e
          have := ih hl' (fun z hz => ha z (by simp [hz])) (fun z hz => hb z (by simp [hz])) h
          rw [← hl']
          omega
theorem incr_le {l : List Nat} : ∀ {lo N : Nat}, l.Pairwise (· < ·) → (∀ x ∈ l, lo ≤ x ∧ x < N) → l.length ≤ N - lo := by
  induction l with
  | nil => intro lo N _ _; simp
  | cons x l ih =>
    intro lo N hp hx
    obtain ⟨h1, h2⟩ := List.pairwise_cons.1 hp
    have h3 := hx x (by simp)
    have := ih (lo := x + 1) (N := N) h2 fun y hy => ⟨h1 y hy, (hx y (by simp [hy])).2⟩
    simp only [List.length_cons]
    omega
theorem outs_few {n : Nat} {l : List (List Int)} (h : OutsOk n l) (hr : ∀ o ∈ l, ∀ x ∈ o, 0 ≤ x ∧ x ≤ 3) : l.length ≤ 4 ^ n := by
  have h1 : (l.map encR).Pairwise (· < ·) := by
    rw [List.pairwise_map]
    have h2 := h.pw
    refine List.Pairwise.imp_of_mem ?_ h2
    intro a b ha hb hab
    exact encR_lex (by rw [h.len a ha, h.len b hb]) (hr a ha) (hr b hb) hab
  have h2 := incr_le (lo := 0) (N := 4 ^ n) h1 fun x hx => by
    obtain ⟨o, ho, rfl⟩ := List.mem_map.1 hx
    have := encR_lt (hr o ho)
    rw [h.len o ho] at this
    exact ⟨Nat.zero_le _, this⟩
  simpa using h2
/-- What a whole search with one memory puts out: something, and not much. -/
theorem sq_outs {p : List (List Ins)} (hp : ∀ r ∈ p, ∀ x ∈ r, insValid x = true) (hl : p.length ≤ 3) {seen taken : List Sq} {outs : List (List Int)} (h : SAll (sqDone p) sqOut (p.length * 3 + 3) (sqStart p) (sqNext p) [] seen taken outs) :
    outs ≠ [] ∧ outs.length ≤ 16777216 ∧ ∀ o ∈ outs, o.length = p.length * 3 + 3 ∧ ∀ x ∈ o, 0 ≤ x ∧ x ≤ 3 := by
  have hr : ∀ o ∈ outs, o.length = p.length * 3 + 3 ∧ ∀ x ∈ o, 0 ≤ x ∧ x ≤ 3 := fun o ho => by
    obtain ⟨s, h1, -, rfl⟩ := (h.fin o).1 ho
    have hk := SqOk.reach hp h1
    exact ⟨sqOut_length hk, sqOut_range hk⟩
  refine ⟨fun e => ?_, ?_, hr⟩
  · obtain ⟨s, h1, h2⟩ := sq_final hp
    have := (h.fin (sqOut s)).2 ⟨s, h1, h2, rfl⟩
    rw [e] at this
    simp at this
  · have h1 := outs_few h.o.ok fun o ho => (hr o ho).2
    have h2 : 4 ^ (p.length * 3 + 3) ≤ 4 ^ 12 := Nat.pow_le_pow_right (by decide) (by omega)
    exact Nat.le_trans h1 h2

end Go.Proofs.Ytpjebgiejkglpaa
