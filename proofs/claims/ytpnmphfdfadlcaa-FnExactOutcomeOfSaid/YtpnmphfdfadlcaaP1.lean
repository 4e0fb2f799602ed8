/-
  Plain lemmas on counts of instructions and the product of a program. No program in sight.
-/
import Derived.Test.YtpnmphfdfadlcaaF3
namespace Go.Proofs.Ytpnmphfdfadlcaa

def fR (loc : Int) (x : Ins) : Bool := x.loc == loc && isRop x.op
def fW (loc : Int) (x : Ins) : Bool := x.loc == loc && isWop x.op
theorem fR_yes {loc : Int} {x : Ins} (h : x.loc = loc) : fR loc x = isRop x.op := by simp [fR, h]
theorem fR_no {loc : Int} {x : Ins} (h : x.loc ≠ loc) : fR loc x = false := by simp [fR, h]
theorem fW_yes {loc : Int} {x : Ins} (h : x.loc = loc) : fW loc x = isWop x.op := by simp [fW, h]
theorem fW_no {loc : Int} {x : Ins} (h : x.loc ≠ loc) : fW loc x = false := by simp [fW, h]

def cnt (f : Ins → Bool) (p : List (List Ins)) : Nat := p.flatten.countP f

theorem cnt_take_succ (f : Ins → Bool) {p : List (List Ins)} {i : Nat} {r : List Ins} (h : p[i]? = some r) : cnt f (p.take (i + 1)) = cnt f (p.take i) + r.countP f := by
  simp [cnt, List.take_add_one, h, List.countP_append]

theorem countP_take_succ (f : Ins → Bool) {r : List Ins} {k : Nat} {x : Ins} (h : r[k]? = some x) : (r.take (k + 1)).countP f = (r.take k).countP f + if f x = true then 1 else 0 := by
  simp [List.take_add_one, h, List.countP_append, List.countP_cons]

theorem cnt_le_flatten (f : Ins → Bool) (p : List (List Ins)) : cnt f p ≤ p.flatten.length := List.countP_le_length

theorem flatten_take_le (p : List (List Ins)) (i : Nat) : (p.take i).flatten.length ≤ p.flatten.length := by
  have h : p.flatten = (p.take i).flatten ++ (p.drop i).flatten := by rw [← List.flatten_append, List.take_append_drop]
  rw [h, List.length_append]; omega

theorem cnt_take_le (f : Ins → Bool) (p : List (List Ins)) (i : Nat) : cnt f (p.take i) ≤ p.flatten.length := Nat.le_trans (cnt_le_flatten f _) (flatten_take_le p i)

theorem row_le_flatten {p : List (List Ins)} {i : Nat} {r : List Ins} (h : p[i]? = some r) : (p.take i).flatten.length + r.length ≤ p.flatten.length := by
  have h1 := flatten_take_le p (i + 1)
  simpa [List.take_add_one, h] using h1

def fact : Nat → Nat
  | 0 => 1
  | n + 1 => fact n * (n + 1)

theorem fact_pos (n : Nat) : 1 ≤ fact n := by
  induction n with
  | zero => exact Nat.le_refl _
  | succ n ih => exact Nat.le_trans ih (Nat.le_mul_of_pos_right _ (Nat.succ_pos _))

def pl (p : List (List Ins)) (loc : Nat) : Nat := (cnt (fW loc) p + 1) ^ cnt (fR loc) p * fact (cnt (fW loc) p)
def prodTo (p : List (List Ins)) : Nat → Nat
  | 0 => 1
  | l + 1 => prodTo p l * pl p l
def prodP (p : List (List Ins)) : Nat := prodTo p 3

/-- A number, cut at one more than the greatest that counts. -/
def cap (n : Nat) : Nat := min n 3001

theorem cap_le (n : Nat) : cap n ≤ 3001 := Nat.min_le_right _ _
theorem cap_mul (q n : Nat) (h : 1 ≤ n) : cap (cap q * n) = cap (q * n) := by
  unfold cap
  by_cases hq : q ≤ 3001
  · rw [Nat.min_eq_left hq]
  · have h1 : 3001 ≤ 3001 * n := Nat.le_mul_of_pos_right _ h
    have h2 : q ≤ q * n := Nat.le_mul_of_pos_right _ h
    rw [Nat.min_eq_right (show 3001 ≤ q by omega), Nat.min_eq_right h1, Nat.min_eq_right (by omega)]

theorem cap_mul' {a q : Nat} (hc : cap a = cap q) (n : Nat) (h : 1 ≤ n) : cap (a * n) = cap (q * n) := by
  rw [← cap_mul a n h, hc, cap_mul q n h]

/-- Past the limit further factors change nothing. -/
theorem cap_past {a q : Nat} (hc : cap a = cap q) (ha : 3000 < a) (n : Nat) (h : 1 ≤ n) : cap a = cap (q * n) := by
  have h1 : cap a = 3001 := by unfold cap; omega
  have h2 : 3001 ≤ q := by rw [h1] at hc; unfold cap at hc; omega
  have h3 : q ≤ q * n := Nat.le_mul_of_pos_right _ h
  rw [h1]; unfold cap; omega

theorem pow_pos' (a n : Nat) : 1 ≤ (a + 1) ^ n := Nat.pos_of_ne_zero (by simp)

theorem fact_mul {s n : Nat} (h : s ≤ n) : ∃ m, 1 ≤ m ∧ fact n = fact s * m := by
  induction n with
  | zero => exact ⟨1, Nat.le_refl _, by rw [show s = 0 by omega, Nat.mul_one]⟩
  | succ n ih =>
    by_cases e : s = n + 1
    · exact ⟨1, Nat.le_refl _, by rw [e, Nat.mul_one]⟩
    · obtain ⟨m, h1, h2⟩ := ih (by omega)
      exact ⟨m * (n + 1), Nat.mul_pos h1 (Nat.succ_pos _), by rw [fact, h2, Nat.mul_assoc]⟩

theorem pow_mul_rest {a t r : Nat} (h : t ≤ r) : ∃ m, 1 ≤ m ∧ (a + 1) ^ r = (a + 1) ^ t * m :=
  ⟨(a + 1) ^ (r - t), pow_pos' _ _, by rw [← Nat.pow_add]; congr 1; omega⟩

/-- Whether a program is valid. -/
def notFence (x : Ins) : Bool := x.op != 4
def rowOk (r : List Ins) : Bool := r.all insValid && decide (r.length ≤ 7)
def shapeOk (p : List (List Ins)) : Bool := decide (p.length ≤ 3) && p.all rowOk && decide (cnt notFence p ≤ 12)
def progValid (p : List (List Ins)) : Bool := shapeOk p && decide (1 ≤ p.length) && decide (prodP p ≤ 3000)

theorem row_no {r : List Ins} {k : Nat} {x : Ins} (h : r[k]? = some x) (hx : insValid x = false) : rowOk r = false := by
  have hm := List.mem_of_getElem? h
  unfold rowOk
  rw [Bool.and_eq_false_iff]
  left
  rw [List.all_eq_false]
  exact ⟨x, hm, by simp [hx]⟩

theorem all_no {p : List (List Ins)} {k : Nat} {r : List Ins} (h : p[k]? = some r) (hr : rowOk r = false) : p.all rowOk = false := by
  rw [List.all_eq_false]
  exact ⟨r, List.mem_of_getElem? h, by simp [hr]⟩

theorem all_take_succ {α : Type} {f : α → Bool} {r : List α} {k : Nat} {x : α} (h : (r.take k).all f = true) (hx : r[k]? = some x) (hf : f x = true) : (r.take (k + 1)).all f = true := by
  rw [List.take_add_one, hx, List.all_append, h]; simp [hf]

theorem valid_le {p : List (List Ins)} (h : progValid p = true) : p.length ≤ 3 ∧ 1 ≤ p.length ∧ (∀ r ∈ p, r.length ≤ 7 ∧ ∀ x ∈ r, insValid x = true) ∧ cnt notFence p ≤ 12 ∧ prodP p ≤ 3000 := by
  unfold progValid shapeOk at h
  simp only [Bool.and_eq_true, decide_eq_true_eq, List.all_eq_true] at h
  obtain ⟨⟨⟨⟨h1, h2⟩, h3⟩, h4⟩, h5⟩ := h
  refine ⟨h1, h4, fun r hr => ?_, h3, h5⟩
  have := h2 r hr
  unfold rowOk at this
  simp only [Bool.and_eq_true, decide_eq_true_eq, List.all_eq_true] at this
  exact ⟨this.2, this.1⟩

end Go.Proofs.Ytpnmphfdfadlcaa
