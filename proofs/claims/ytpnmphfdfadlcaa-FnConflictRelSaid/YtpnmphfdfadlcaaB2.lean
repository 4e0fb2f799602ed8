/-
  The program's and the reference's functions on relations: tests. Condition: few elements.
-/
import Derived.Test.YtpnmphfdfadlcaaB1
import Derived.Test.YtpnmphfdfadlcaaN1
namespace Go.Proofs.Ytpnmphfdfadlcaa
open Go.RowKit

theorem belowAlloc0 (w : World) (o : Obj) : Below w.heap.size w (w.alloc o) := (Below.refl _ _).alloc (Nat.le_refl _) o

theorem if_bit (b : Bool) : ((if b = true then (1 : Int) else 0) == 1) = b := by cases b <;> rfl

set_option maxHeartbeats 400000 in
theorem related_any (v : Value) (n i k : Nat) (f : Nat → Nat → Bool) (w : World) (hx : Rep IntE w v (relOf n f)) (hn : n ≤ 60) (hi : i < n) (hk : k < n) :
    Calls Try.prog 92 #[v, .int .i64 i, .int .i64 k] w fun e w' => e = .returned (.bool (f i k)) ∧ w = w' := by
  obtain ⟨a, c, rfl, -, -, -, hx⟩ := hx.open
  simp only [relOf_length] at *
  obtain ⟨b, o, rfl, hbl, i0⟩ := hx.int (relOf_get hi)
  have hB := bitsTo_bit (f i) hn hk
  have hlt := bitsTo_lt (f i) n hn
  have hIB := if_bit (f i k)
  have hi' := nat_of_lt hi
  clear hx
  generalize bitsTo (f i) n = row at *
  have HB := hide hB; have HI := hide hIB
  have h0 := hlt.1
  clear hB hIB hlt
  go_enter Try.func92, Try.ntmps92
  go_wp2_with fail
  go_ret
  exact ⟨by rw [HB.out, HI.out]; rfl, rfl⟩

theorem div_pow_zero {x : Int} {n : Nat} (h0 : 0 ≤ x) (h1 : x < (2 : Int) ^ n) : x / (2 : Int) ^ n = 0 := Int.ediv_eq_zero_of_lt h0 h1

theorem relValid_1 (B n c : Nat) (a : Option Addr) (x : Int) (w : World) (hc : w.cell? ⟨B, 0, none⟩ = some (.slice a n c)) (hn : n ≤ 16) (h0 : 0 ≤ x) (h1 : x < (2 : Int) ^ n) :
    Calls Try.prog 171 #[.int .i64 x, .pointer (some ⟨B, 0, none⟩)] w fun e w' => e = .returned (.bool false) ∧ w = w' := by
  have hz := div_pow_zero h0 h1
  have hx0 : decide (x < 0) = false := decide_eq_false (by omega)
  clear h1
  go_enter Try.func171, Try.ntmps171
  go_wp2_with fail
  go_ret
  exact ⟨rfl, rfl⟩

set_option maxHeartbeats 400000 in
theorem indexValid (B n c : Nat) (a : Option Addr) (v : Value) (xs : List Int) (w : World) (hx : Rep IntE w v xs) (hc : w.cell? ⟨B, 0, none⟩ = some (.slice a n c)) (hn : n ≤ 16) (hr : ∀ x ∈ xs, 0 ≤ x ∧ x < (2 : Int) ^ n) :
    Calls Try.prog 210 #[v, .func (.func 171) #[] #[.pointer (some ⟨B, 0, none⟩)]] w fun e w' => e = .returned (.int .i64 (-1)) ∧ w = w' := by
  obtain ⟨a1, c1, rfl, hc1, hc2, hc3, hx⟩ := hx.open
  have HX := hide hx; clear hx
  have HR := hide (fun x hx => relValid_1 B n c a x w hc hn (hr x hx).1 (hr x hx).2)
  clear hr hc
  generalize hm : xs.length = m at *
  have H := hide hm; clear hm
  go_enter Try.func210, Try.ntmps210
  go_wp2_with fail
  go_loop [8] (fun i => ∃ t : Nat, t ≤ m ∧ i = .int .i64 t) (fun i => m - (intOf i).toNat)
  case atStart => exact ⟨0, Nat.zero_le _, rfl⟩
  case round =>
    obtain ⟨t, ht, rfl⟩ := hrel
    by_cases hlt : t < m
    · obtain ⟨x, hxk⟩ := get_of_lt (xs := xs) (k := t) (by rw [H.out]; exact hlt)
      obtain ⟨b, o, rfl, hbl, i0⟩ := HX.out.int hxk
      have hlt' := nat_of_lt hlt
      have HC := hide (HR.out x (List.mem_of_getElem? hxk)); clear hxk
      go_wp2_with fail
      (with_reducible refine HC.out.mono ?_); rintro e w2 ⟨rfl, rfl⟩
      go_wp2_with fail
      go_round
      case rel => exact ⟨t + 1, by omega, by go_num⟩
      case measure => simp [intOf]; omega
    · go_wp2_with fail
      go_ret
      exact ⟨rfl, rfl⟩

theorem containsValid (B n c : Nat) (a : Option Addr) (v : Value) (xs : List Int) (w : World) (hx : Rep IntE w v xs) (hc : w.cell? ⟨B, 0, none⟩ = some (.slice a n c)) (hn : n ≤ 16) (hr : ∀ x ∈ xs, 0 ≤ x ∧ x < (2 : Int) ^ n) :
    Calls Try.prog 146 #[v, .func (.func 171) #[] #[.pointer (some ⟨B, 0, none⟩)]] w fun e w' => e = .returned (.bool false) ∧ w = w' := by
  have HI := hide (indexValid B n c a v xs w hx hc hn hr)
  obtain ⟨a1, c1, rfl, -⟩ := hx.open
  clear hx hr hc
  go_enter Try.func146, Try.ntmps146
  go_wp2_with fail
  (with_reducible refine HI.out.mono ?_); rintro e w1 ⟨rfl, rfl⟩
  go_wp2_with fail
  go_ret
  exact ⟨rfl, rfl⟩

theorem RelValid_any (v : Value) (n : Nat) (f : Nat → Nat → Bool) (w : World) (hx : Rep IntE w v (relOf n f)) (hn : n ≤ 16) :
    Calls Try.prog 89 #[v] w fun e w' => e = .returned (.bool true) ∧ Below w.heap.size w w' := by
  obtain ⟨a, c, rfl, -, -, -, hx⟩ := hx.open
  simp only [relOf_length] at *
  have HB := hide (belowAlloc0 w (.cells #[.slice a n c] 36))
  have HC := hide (containsValid w.heap.size n c a (.slice a n c) (relOf n f) _ (hx.below HB.out) (by simp [go_sem]) hn (fun x hx => by
    obtain ⟨i, hi, rfl⟩ := relOf_mem hx
    exact bitsTo_lt (f i) n (by omega)))
  have hn' : (n : Int) ≤ 16 := by omega
  clear hx
  go_enter Try.func89, Try.ntmps89
  go_wp2_with fail
  (with_reducible refine HC.out.mono ?_); rintro e w1 ⟨rfl, rfl⟩
  go_wp2_with fail
  go_ret
  exact ⟨rfl, HB.out⟩

end Go.Proofs.Ytpnmphfdfadlcaa
