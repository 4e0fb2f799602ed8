/-
  Bytes of a text in the reference's parser. No condition but bounds.
-/
import Derived.Test.YtpnmphfdfadlcaaP19
namespace Go.Proofs.Ytpnmphfdfadlcaa
open Go.RowKit

theorem byte_get (s : ByteArray) (i : Int) (_h0 : 0 ≤ i) (h : i.toNat < s.size) : s.data.toList[i.toNat]? = some (s[i.toNat]'h) := by
  rw [Array.getElem?_toList, Array.getElem?_eq_getElem (show i.toNat < s.data.size from h)]
  rfl
theorem byte_none (s : ByteArray) (i : Int) (h : (s.size : Int) ≤ i) : s.data.toList[i.toNat]? = none := by
  rw [Array.getElem?_toList, Array.getElem?_eq_none (show s.data.size ≤ i.toNat by have : s.data.size = s.size := rfl; omega)]

set_option maxHeartbeats 800000 in
theorem l7Is_any (s : ByteArray) (i : Int) (k : UInt8) (c : Int) (hk : (k.toNat : Int) = c) (w : World) :
    Calls Try.prog 213 #[.string s, .int .i64 i, .int .u8 c] w fun e w' => e = .returned (.bool (sIs s.data.toList i k)) ∧ w = w' := by
  have E : Hid (sIs s.data.toList i k = (decide (0 ≤ i) && (s.data.toList[i.toNat]? == some k))) := hide rfl
  generalize sIs s.data.toList i k = r at *
  by_cases h0 : 0 ≤ i
  · have t0 : decide (i ≥ 0) = true := decide_eq_true h0
    by_cases h1 : i < s.size
    · have t1 : decide (i < (s.size : Int)) = true := decide_eq_true h1
      have hg : i.toNat < s.size := by omega
      have hii : 0 ≤ i ∧ i < s.size := ⟨h0, h1⟩
      rw [byte_get s i h0 hg] at E
      have hu : ((s[i.toNat]'hg).toNat : Int) ≤ 255 := by have := (s[i.toNat]'hg).toNat_lt; omega
      by_cases h2 : (s[i.toNat]'hg) = k
      · have t2 : (((s[i.toNat]'hg).toNat : Int) == c) = true := by rw [beq_iff_eq, h2, hk]
        obtain rfl : r = true := by rw [E.out, h2]; simp [h0]
        clear E h2
        go_enter Try.func213, Try.ntmps213
        go_wp2_with fail
        go_ret
        exact ⟨rfl, rfl⟩
      · have t2 : (((s[i.toNat]'hg).toNat : Int) == c) = false := by
          rw [← hk]; exact u8_ne h2
        obtain rfl : r = false := by rw [E.out]; simp [h2]
        clear E h2
        go_enter Try.func213, Try.ntmps213
        go_wp2_with fail
        go_ret
        exact ⟨rfl, rfl⟩
    · have t1 : decide (i < (s.size : Int)) = false := decide_eq_false h1
      obtain rfl : r = false := by rw [E.out, byte_none s i (by omega)]; simp
      clear E
      go_enter Try.func213, Try.ntmps213
      go_wp2_with fail
      go_ret
      exact ⟨rfl, rfl⟩
  · have t0 : decide (i ≥ 0) = false := decide_eq_false h0
    obtain rfl : r = false := by rw [E.out]; simp [h0]
    clear E
    go_enter Try.func213, Try.ntmps213
    go_wp2_with fail
    go_ret
    exact ⟨rfl, rfl⟩

set_option maxHeartbeats 800000 in
theorem l1PlaceL_any (s : ByteArray) (i f m : Int) (w : World) (h0 : 0 ≤ i) (hf : 0 ≤ f) (hf2 : f ≤ 255) :
    Calls Try.prog 162 #[.string s, .int .i64 i, .int .u8 f, .int .i64 m] w fun e w' => e = .returned (.int .i64 (sPl s.data.toList i f m)) ∧ w = w' := by
  have E : Hid (sPl s.data.toList i f m = if i < 0 then -1 else match s.data.toList[i.toNat]? with
    | none => -1
    | some c => if (c.toNat : Int) < f ∨ (c.toNat : Int) - f > m then -1 else (c.toNat : Int) - f) := hide rfl
  generalize sPl s.data.toList i f m = r at *
  by_cases hi : i < s.size
  · have hi1 : decide (i ≥ (s.size : Int)) = false := decide_eq_false (by omega)
    have hii : 0 ≤ i ∧ i < s.size := ⟨h0, hi⟩
    have hg : i.toNat < s.size := by omega
    rw [byte_get s i h0 hg, if_neg (by omega)] at E
    have hu : ((s[i.toNat]'hg).toNat : Int) ≤ 255 := by have := (s[i.toNat]'hg).toNat_lt; omega
    by_cases h1 : ((s[i.toNat]'hg).toNat : Int) < f
    · obtain rfl : r = -1 := by rw [E.out]; simp only; rw [if_pos (Or.inl h1)]
      clear E
      go_enter Try.func162, Try.ntmps162
      go_wp2_with fail
      go_ret
      exact ⟨rfl, rfl⟩
    · have h1' : decide (((s[i.toNat]'hg).toNat : Int) < f) = false := decide_eq_false h1
      by_cases h2 : ((s[i.toNat]'hg).toNat : Int) - f > m
      · obtain rfl : r = -1 := by rw [E.out]; simp only; rw [if_pos (Or.inr h2)]
        clear E
        go_enter Try.func162, Try.ntmps162
        go_wp2_with fail
        go_ret
        exact ⟨rfl, rfl⟩
      · have h2' : decide (((s[i.toNat]'hg).toNat : Int) - f > m) = false := decide_eq_false h2
        obtain rfl : r = ((s[i.toNat]'hg).toNat : Int) - f := by rw [E.out]; simp only; rw [if_neg (by omega)]
        clear E
        go_enter Try.func162, Try.ntmps162
        go_wp2_with fail
        go_ret
        exact ⟨rfl, rfl⟩
  · have hi1 : decide (i ≥ (s.size : Int)) = true := decide_eq_true (by omega)
    obtain rfl : r = -1 := by rw [E.out, if_neg (by omega), byte_none s i (by omega)]
    clear E
    go_enter Try.func162, Try.ntmps162
    go_wp2_with fail
    go_ret
    exact ⟨rfl, rfl⟩

theorem l11Digit_any (s : ByteArray) (i : Int) (w : World) (h0 : 0 ≤ i) :
    Calls Try.prog 161 #[.string s, .int .i64 i] w fun e w' => e = .returned (.int .i64 (sPl s.data.toList i 48 9)) ∧ w = w' := by
  have H := hide (l1PlaceL_any s i 48 9 w h0 (by omega) (by omega))
  generalize sPl s.data.toList i 48 9 = r at *
  go_enter Try.func161, Try.ntmps161
  go_wp2_with fail
  (with_reducible refine H.out.mono ?_); rintro e w1 ⟨rfl, rfl⟩
  go_wp2_with fail
  go_ret
  exact ⟨rfl, rfl⟩

end Go.Proofs.Ytpnmphfdfadlcaa
