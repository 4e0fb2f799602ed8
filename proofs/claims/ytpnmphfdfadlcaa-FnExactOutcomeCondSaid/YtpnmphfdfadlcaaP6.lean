/-
  Plain: valid conditions.
-/
import Derived.Test.YtpnmphfdfadlcaaT1
namespace Go.Proofs.Ytpnmphfdfadlcaa

def inR (x hi : Int) : Bool := decide (0 ≤ x) && decide (x ≤ hi)
/-- The fields of a node are right; it has n parts. -/
def nodeR (o t p x : Int) (n : Nat) : Bool :=
  if o = 1 then inR t 2 && inR p 2 && inR x 3 && decide (n = 0)
  else if o = 2 then decide (t = 0) && inR p 2 && inR x 3 && decide (n = 0)
  else if o = 3 ∨ o = 4 then decide (t = 0) && decide (p = 0) && decide (x = 0) && decide (n = 2)
  else decide (o = 5) && decide (t = 0) && decide (p = 0) && decide (x = 0) && decide (n = 1)
def nodeB (c : Cd) : Bool := nodeR c.op c.th c.pl c.val c.kids.length
def shapeF : Nat → Cd → Bool
  | 0, _ => false
  | d + 1, c => nodeB c && c.kids.all (shapeF d)
def nodes (c : Cd) : Nat := descs c.kids + 1
def validC (c : Cd) : Bool := shapeF 10 c && decide (nodes c ≤ 30)

theorem shapeF_succ (d : Nat) (c : Cd) : shapeF (d + 1) c = true ↔ nodeB c = true ∧ ∀ k ∈ c.kids, shapeF d k = true := by
  simp [shapeF]

theorem nodeB_kids {c : Cd} (h : nodeB c = true) : c.kids.length ≤ 2 := by
  unfold nodeB nodeR at h
  split at h
  · simp only [Bool.and_eq_true, decide_eq_true_eq] at h; omega
  · split at h
    · simp only [Bool.and_eq_true, decide_eq_true_eq] at h; omega
    · split at h
      · simp only [Bool.and_eq_true, decide_eq_true_eq] at h; omega
      · simp only [Bool.and_eq_true, decide_eq_true_eq] at h; omega

/-- What the size of a condition says: r is its number of nodes, or more than 30 where it is not right. -/
structure SzOK (d : Nat) (c : Cd) (r : Int) : Prop where
  low : 1 ≤ r
  high : r ≤ 31 + 30 * d
  iff : r ≤ 30 ↔ (shapeF d c = true ∧ nodes c ≤ 30)
  eq : r ≤ 30 → r = nodes c

theorem SzOK.bad0 (c : Cd) : SzOK 0 c 31 := ⟨by omega, by omega, by simp [shapeF], by omega⟩
theorem SzOK.bad {d : Nat} {c : Cd} (h : nodeB c = false) : SzOK (d + 1) c 31 := ⟨by omega, by omega, by
  constructor
  · intro h; omega
  · rintro ⟨h1, _⟩
    rw [shapeF_succ, h] at h1
    simp at h1, by omega⟩

/-- So many parts are counted and right. -/
structure SzTo (d : Nat) (ks : List Cd) (k : Nat) (r : Int) : Prop where
  eq : r = 1 + descs (ks.take k)
  le : r ≤ 30
  all : ∀ c ∈ ks.take k, shapeF d c = true

theorem SzTo.zero (d : Nat) (ks : List Cd) : SzTo d ks 0 1 := ⟨by simp [descs], by omega, by simp⟩
theorem SzTo.low {d : Nat} {ks : List Cd} {k : Nat} {r : Int} (h : SzTo d ks k r) : 1 ≤ r := by have := h.eq; omega

theorem SzTo.next {d : Nat} {ks : List Cd} {k : Nat} {r r' : Int} {x : Cd} (h : SzTo d ks k r) (hx : ks[k]? = some x) (hr : SzOK d x r') (hle : r + r' ≤ 30) : SzTo d ks (k + 1) (r + r') := by
  have h1 := h.low
  have h2 := hr.eq (by omega)
  obtain ⟨h3, h4⟩ := hr.iff.1 (by omega)
  refine ⟨?_, hle, ?_⟩
  · rw [descs_take_succ hx, h.eq, h2]; unfold nodes; omega
  · intro c hc
    rw [List.take_add_one, hx] at hc
    simp at hc
    rcases hc with hc | rfl
    · exact h.all c hc
    · exact h3

theorem SzTo.more {d : Nat} {c : Cd} {k : Nat} {r r' : Int} {x : Cd} (h : SzTo d c.kids k r) (hx : c.kids[k]? = some x) (hr : SzOK d x r') (hgt : ¬ r + r' ≤ 30) : SzOK (d + 1) c (r + r') := by
  have h1 := h.low
  have h0 := hr.low
  have h5 := hr.high
  refine ⟨by omega, by have := h.le; omega, ⟨fun h => absurd h hgt, ?_⟩, fun h => absurd h hgt⟩
  rintro ⟨hs, hn⟩
  exfalso
  apply hgt
  rw [shapeF_succ] at hs
  have hm := List.mem_of_getElem? hx
  have hk := descs_kid hx
  have h6 := hr.iff.2 ⟨hs.2 x hm, by unfold nodes at hn ⊢; omega⟩
  have h7 := hr.eq h6
  rw [h.eq, h7]
  unfold nodes at hn ⊢; omega

theorem SzTo.done {d : Nat} {c : Cd} {k : Nat} {r : Int} (h : SzTo d c.kids k r) (hn : nodeB c = true) (hk : c.kids.length ≤ k) : SzOK (d + 1) c r := by
  have h1 := h.low
  have h2 := h.le
  have h3 := h.eq
  have h4 := h.all
  rw [List.take_of_length_le hk] at h3 h4
  exact ⟨h1, by omega, ⟨fun _ => ⟨(shapeF_succ d c).2 ⟨hn, h4⟩, by unfold nodes; omega⟩, fun _ => h2⟩, fun _ => by unfold nodes; omega⟩

theorem SzOK.valid {c : Cd} {r : Int} (h : SzOK 10 c r) : decide (r ≤ 30) = validC c := by
  unfold validC
  rw [Bool.eq_iff_iff]
  simp [h.iff]

/-- What a count up to a number says. -/
structure CnOK (c : Cd) (m r : Int) : Prop where
  low : 1 ≤ r
  high : r ≤ nodes c
  eq : r ≤ m → r = nodes c

/-- So many parts are counted. -/
structure CnTo (ks : List Cd) (m : Int) (k : Nat) (r : Int) : Prop where
  low : 1 ≤ r
  high : r ≤ 1 + descs (ks.take k)
  eq : r ≤ m → r = 1 + descs (ks.take k)

theorem CnTo.zero (ks : List Cd) (m : Int) : CnTo ks m 0 1 := ⟨by omega, by omega, fun _ => by simp [descs]⟩
theorem CnTo.next {ks : List Cd} {m : Int} {k : Nat} {r r' : Int} {x : Cd} (h : CnTo ks m k r) (hx : ks[k]? = some x) (hm : r ≤ m) (hr : CnOK x (m - r) r') : CnTo ks m (k + 1) (r + r') := by
  have h1 := h.low; have h2 := h.high; have h3 := h.eq hm
  have h4 := hr.low; have h5 := hr.high
  unfold nodes at h5
  refine ⟨by omega, by rw [descs_take_succ hx]; omega, fun hle => ?_⟩
  have := hr.eq (by omega)
  unfold nodes at this
  rw [descs_take_succ hx]; omega

theorem CnTo.done {c : Cd} {m : Int} {k : Nat} {r : Int} (h : CnTo c.kids m k r) (hk : c.kids.length ≤ k ∨ ¬ r ≤ m) : CnOK c m r := by
  have h1 := h.low; have h2 := h.high; have h3 := descs_take_le c.kids k
  refine ⟨h1, by unfold nodes; omega, fun hm => ?_⟩
  rcases hk with hk | hk
  · have := h.eq hm
    rw [List.take_of_length_le hk] at this
    unfold nodes; omega
  · exact absurd hm hk

theorem CnOK.le {c : Cd} {r : Int} (h : CnOK c 30 r) : decide (r ≤ 30) = decide (nodes c ≤ 30) := by
  have h1 := h.high
  rw [Bool.eq_iff_iff]
  simp only [decide_eq_true_eq]
  constructor
  · intro hr; have := h.eq hr; omega
  · intro hn; omega

end Go.Proofs.Ytpnmphfdfadlcaa
