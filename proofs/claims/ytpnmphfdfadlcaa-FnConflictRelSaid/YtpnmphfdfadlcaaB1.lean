/-
  Plain: rows of bits and relations made of them.
-/
import Derived.Test.YtpnmphfdfadlcaaE4
namespace Go.Proofs.Ytpnmphfdfadlcaa
open Go.RowKit

/-- The row as a natural number. -/
def maskTo (f : Nat → Bool) : Nat → Nat
  | 0 => 0
  | k + 1 => if f k = true then maskTo f k ||| 2 ^ k else maskTo f k

theorem maskTo_testBit (f : Nat → Bool) : ∀ n k, (maskTo f n).testBit k = (decide (k < n) && f k) := by
  intro n
  induction n with
  | zero => intro k; simp [maskTo]
  | succ n ih =>
    intro k
    unfold maskTo
    by_cases h : f n = true
    · rw [if_pos h, Nat.testBit_or, ih, Nat.testBit_two_pow]
      by_cases e : n = k
      · subst e; simp [h]
      · have : decide (n = k) = false := by simp [e]
        rw [this, Bool.or_false]
        by_cases hk : k < n
        · simp [hk, show k < n + 1 by omega]
        · simp [hk, show ¬ k < n + 1 by omega]
    · rw [if_neg h, ih]
      by_cases e : n = k
      · subst e; simp [h]
      · by_cases hk : k < n
        · simp [hk, show k < n + 1 by omega]
        · simp [hk, show ¬ k < n + 1 by omega]

theorem maskTo_lt (f : Nat → Bool) (n : Nat) : maskTo f n < 2 ^ n := by
  apply Nat.lt_pow_two_of_testBit
  intro i hi
  rw [maskTo_testBit]
  simp; omega

theorem maskTo_congr {f g : Nat → Bool} {n : Nat} (h : ∀ k, k < n → f k = g k) : maskTo f n = maskTo g n := by
  apply Nat.eq_of_testBit_eq
  intro k
  rw [maskTo_testBit, maskTo_testBit]
  by_cases hk : k < n
  · rw [h k hk]
  · simp [hk]

theorem pow_le60 {n : Nat} (h : n ≤ 60) : 2 ^ n ≤ 1152921504606846976 := by
  have := Nat.pow_le_pow_right (n := 2) (by decide) h
  exact this

theorem bits_nat (op : Nat → Nat → Nat) (bop : BinOp) (a b : Nat) (hop : op a b < 9223372036854775808)
    (h : bits bop .i64 (a : Int) (b : Int) = IntKind.i64.wrap ((op a b : Nat) : Int)) : bits bop .i64 (a : Int) (b : Int) = ((op a b : Nat) : Int) := by
  rw [h, IntKind.wrap_i64]
  omega

theorem toNat64 {a : Nat} (ha : a < 9223372036854775808) : (BitVec.ofInt 64 (a : Int)).toNat = a := by
  rw [BitVec.ofInt_natCast, BitVec.toNat_ofNat]; exact Nat.mod_eq_of_lt (by omega)

theorem bits_or_nat (a b : Nat) (ha : a < 9223372036854775808) (hb : b < 9223372036854775808) : bits .or .i64 (a : Int) (b : Int) = ((a ||| b : Nat) : Int) := by
  have hx : a ||| b < 2 ^ 63 := Nat.or_lt_two_pow (by omega) (by omega)
  refine bits_nat (· ||| ·) .or a b (by omega) ?_
  show IntKind.i64.wrap ((BitVec.ofInt 64 (a : Int) ||| BitVec.ofInt 64 (b : Int)).toNat : Int) = _
  rw [BitVec.toNat_or, toNat64 ha, toNat64 hb]

theorem bits_and_nat (a b : Nat) (ha : a < 9223372036854775808) (hb : b < 9223372036854775808) : bits .and .i64 (a : Int) (b : Int) = ((a &&& b : Nat) : Int) := by
  have hx : a &&& b < 2 ^ 63 := Nat.and_lt_two_pow _ (by omega)
  refine bits_nat (· &&& ·) .and a b (by omega) ?_
  show IntKind.i64.wrap ((BitVec.ofInt 64 (a : Int) &&& BitVec.ofInt 64 (b : Int)).toNat : Int) = _
  rw [BitVec.toNat_and, toNat64 ha, toNat64 hb]

theorem wrap_pow {k : Nat} (h : k < 60) : wrap64 ((2 : Int) ^ k) = ((2 ^ k : Nat) : Int) := by
  have h1 := pow_le60 (n := k) (by omega)
  have h2 : ((2 : Int) ^ k) = ((2 ^ k : Nat) : Int) := by simp
  rw [h2]
  generalize (2 ^ k : Nat) = z at *
  exact IntWalk.wrap64_in _ ⟨by omega, by omega⟩

theorem bitsTo_mask (f : Nat → Bool) : ∀ n, n ≤ 60 → bitsTo f n = (maskTo f n : Int) := by
  intro n
  induction n with
  | zero => intro _; rfl
  | succ n ih =>
    intro h
    unfold bitsTo maskTo
    rw [ih (by omega)]
    split
    · have h1 := maskTo_lt f n
      have h2 := pow_le60 (n := n) (by omega)
      rw [wrap_pow (by omega), bits_or_nat _ _ (by omega) (by omega)]
    · rfl

theorem bitsTo_lt (f : Nat → Bool) (n : Nat) (h : n ≤ 60) : 0 ≤ bitsTo f n ∧ bitsTo f n < (2 : Int) ^ n := by
  rw [bitsTo_mask f n h]
  have h1 := maskTo_lt f n
  have h2 : ((2 : Int) ^ n) = ((2 ^ n : Nat) : Int) := by simp
  rw [h2]
  omega

theorem bitsTo_congr {f g : Nat → Bool} {n : Nat} (hn : n ≤ 60) (h : ∀ k, k < n → f k = g k) : bitsTo f n = bitsTo g n := by
  rw [bitsTo_mask f n hn, bitsTo_mask g n hn, maskTo_congr h]

theorem bitsTo_or (f g : Nat → Bool) {n : Nat} (hn : n ≤ 60) : bits .or .i64 (bitsTo f n) (bitsTo g n) = bitsTo (fun k => f k || g k) n := by
  have h1 := maskTo_lt f n; have h2 := maskTo_lt g n; have h3 := pow_le60 hn
  rw [bitsTo_mask f n hn, bitsTo_mask g n hn, bitsTo_mask _ n hn, bits_or_nat _ _ (by omega) (by omega)]
  congr 1
  apply Nat.eq_of_testBit_eq
  intro k
  rw [Nat.testBit_or, maskTo_testBit, maskTo_testBit, maskTo_testBit, Bool.and_or_distrib_left]

theorem bitsTo_and (f g : Nat → Bool) {n : Nat} (hn : n ≤ 60) : bits .and .i64 (bitsTo f n) (bitsTo g n) = bitsTo (fun k => f k && g k) n := by
  have h1 := maskTo_lt f n; have h2 := maskTo_lt g n; have h3 := pow_le60 hn
  rw [bitsTo_mask f n hn, bitsTo_mask g n hn, bitsTo_mask _ n hn, bits_and_nat _ _ (by omega) (by omega)]
  congr 1
  apply Nat.eq_of_testBit_eq
  intro k
  rw [Nat.testBit_and, maskTo_testBit, maskTo_testBit, maskTo_testBit]
  cases decide (k < n) <;> simp

/-- Is the bit there? -/
theorem bitsTo_bit (f : Nat → Bool) {n k : Nat} (hn : n ≤ 60) (hk : k < n) : bits .and .i64 (bitsTo f n / (2 : Int) ^ k) 1 = if f k = true then 1 else 0 := by
  have h1 := maskTo_lt f n; have h3 := pow_le60 hn
  rw [bitsTo_mask f n hn]
  have h2 : ((2 : Int) ^ k) = ((2 ^ k : Nat) : Int) := by simp
  have h4 : maskTo f n / 2 ^ k ≤ maskTo f n := Nat.div_le_self _ _
  rw [h2, ← Int.natCast_ediv]
  have := bits_and_nat (maskTo f n / 2 ^ k) 1 (by omega) (by omega)
  rw [show ((1 : Nat) : Int) = 1 from rfl] at this
  rw [this, Nat.and_one_is_mod]
  have ht := maskTo_testBit f n k
  rw [Nat.testBit_eq_decide_div_mod_eq] at ht
  simp only [hk, decide_true, Bool.true_and] at ht
  cases hf : f k with
  | true =>
    rw [hf] at ht
    have := of_decide_eq_true ht
    rw [this]; rfl
  | false =>
    rw [hf] at ht
    have := of_decide_eq_false ht
    have h5 : maskTo f n / 2 ^ k % 2 = 0 := by omega
    rw [h5]; rfl

theorem bitsTo_zero (n : Nat) : bitsTo (fun _ => false) n = 0 := by
  induction n with
  | zero => rfl
  | succ n ih => unfold bitsTo; simpa using ih

/-! Relations. -/

theorem relOf_congr {n : Nat} {f g : Nat → Nat → Bool} (hn : n ≤ 60) (h : ∀ i k, i < n → k < n → f i k = g i k) : relOf n f = relOf n g := by
  unfold relOf
  apply List.map_congr_left
  intro i hi
  rw [List.mem_range] at hi
  exact bitsTo_congr hn (fun k hk => h i k hi hk)

theorem relOf_mem {n : Nat} {f : Nat → Nat → Bool} {x : Int} (h : x ∈ relOf n f) : ∃ i, i < n ∧ x = bitsTo (f i) n := by
  unfold relOf at h
  rw [List.mem_map] at h
  obtain ⟨i, hi, rfl⟩ := h
  exact ⟨i, by simpa using hi, rfl⟩

def fOr (f g : Nat → Nat → Bool) : Nat → Nat → Bool := fun i k => f i k || g i k
def fAnd (f g : Nat → Nat → Bool) : Nat → Nat → Bool := fun i k => f i k && g i k
def fInv (f : Nat → Nat → Bool) : Nat → Nat → Bool := fun i k => f k i
/-- One after the other, over the first m elements in between. -/
def fComp (m : Nat) (f g : Nat → Nat → Bool) : Nat → Nat → Bool := fun i k => (List.range m).any fun j => f i j && g j k

theorem fComp_succ (m : Nat) (f g : Nat → Nat → Bool) (i : Nat) : (fun k => fComp (m + 1) f g i k) = fun k => fComp m f g i k || (f i m && g m k) := by
  funext k
  unfold fComp
  rw [List.range_succ, List.any_append]; simp

theorem fComp_assoc (n : Nat) (f g h : Nat → Nat → Bool) (i k : Nat) : fComp n (fComp n f g) h i k = fComp n f (fComp n g h) i k := by
  unfold fComp
  rw [Bool.eq_iff_iff]
  simp only [List.any_eq_true, List.mem_range, Bool.and_eq_true]
  constructor
  · rintro ⟨j, hj, ⟨m, hm, h1, h2⟩, h3⟩
    exact ⟨m, hm, h1, j, hj, h2, h3⟩
  · rintro ⟨m, hm, h1, j, hj, h2, h3⟩
    exact ⟨j, hj, ⟨m, hm, h1, h2⟩, h3⟩

/-- One step of the closure: row i takes row m in, if it has m. -/
def wStep (f : Nat → Nat → Bool) (m i : Nat) : Nat → Nat → Bool := fun a k => if a = i ∧ f i m = true then f i k || f m k else f a k
def wIn (f : Nat → Nat → Bool) (m : Nat) : Nat → Nat → Nat → Bool
  | 0 => f
  | i + 1 => wStep (wIn f m i) m i
def wOut (n : Nat) (f : Nat → Nat → Bool) : Nat → Nat → Nat → Bool
  | 0 => f
  | m + 1 => wIn (wOut n f m) m n
def fClo (n : Nat) (f : Nat → Nat → Bool) : Nat → Nat → Bool := wOut n f n

theorem wStep_no {f : Nat → Nat → Bool} {m i : Nat} (h : f i m = false) : wStep f m i = f := by
  funext a k
  unfold wStep
  rw [if_neg (by rw [h]; simp)]

theorem wStep_yes {n : Nat} {f : Nat → Nat → Bool} {m i : Nat} (hn : n ≤ 60) (hi : i < n) (h : f i m = true) :
    relOf n (wStep f m i) = (relOf n f).set i (bits .or .i64 (bitsTo (f i) n) (bitsTo (f m) n)) := by
  rw [bitsTo_or _ _ hn]
  apply List.ext_getElem?
  intro a
  rw [List.getElem?_set, relOf_length]
  by_cases e : i = a
  · subst e
    rw [if_pos rfl, if_pos hi, relOf_get hi]
    congr 1
    apply bitsTo_congr hn
    intro k _
    unfold wStep
    rw [if_pos ⟨rfl, h⟩]
  · rw [if_neg e]
    by_cases ha : a < n
    · rw [relOf_get ha, relOf_get ha]
      congr 1
      apply bitsTo_congr hn
      intro k _
      unfold wStep
      rw [if_neg (fun h => e h.1.symm)]
    · rw [List.getElem?_eq_none (by rw [relOf_length]; omega), List.getElem?_eq_none (by rw [relOf_length]; omega)]

end Go.Proofs.Ytpnmphfdfadlcaa
