/-
  FnConflictRel: for every input the law returns true and the input reads afterwards as it read before. No condition.
-/
import Derived.Test.YtpnmphfdfadlcaaB10
import Derived.Test.YtpnmphfdfadlcaaB4
import Derived.Test.YtpnmphfdfadlcaaE2
import Derived.Test.YtpnmphfdfadlcaaF6
import Derived.Test.YtpnmphfdfadlcaaE1
import Derived.Test.YtpnmphfdfadlcaaE4
import Derived.Test.YtpnmphfdfadlcaaP5
import Derived.Test.YtpnmphfdfadlcaaE7
import Derived.Test.YtpnmphfdfadlcaaD14
import Derived.Test.YtpnmphfdfadlcaaD6
import Derived.Test.YtpnmphfdfadlcaaF16
import Derived.Test.YtpnmphfdfadlcaaArgB
namespace Go.Proofs.Ytpnmphfdfadlcaa
open Go.RowKit

/-- The number of the first n elements of which f holds. -/
def cntB (f : Nat → Bool) : Nat → Nat
  | 0 => 0
  | n + 1 => cntB f n + if f n = true then 1 else 0
theorem cntB_le (f : Nat → Bool) (n : Nat) : cntB f n ≤ n := by
  induction n with
  | zero => exact Nat.le_refl _
  | succ n ih => simp only [cntB]; split <;> omega
theorem cntB_congr {f g : Nat → Bool} : ∀ n, (∀ k, k < n → f k = g k) → cntB f n = cntB g n := by
  intro n
  induction n with
  | zero => intro _; rfl
  | succ n ih => intro h; simp only [cntB]; rw [ih (fun k hk => h k (by omega)), h n (by omega)]

/-- The sum of the lowest 15 bits. -/
def popN (x : Nat) : Nat := x % 2 + x / 2 % 2 + x / 4 % 2 + x / 8 % 2 + x / 16 % 2 + x / 32 % 2 + x / 64 % 2 + x / 128 % 2 + x / 256 % 2 + x / 512 % 2 + x / 1024 % 2 + x / 2048 % 2 + x / 4096 % 2 + x / 8192 % 2 + x / 16384 % 2
def chkO : Nat → Nat → Bool
  | 0, _ => true
  | n + 1, s => Nat.beq (ones s) (popN s) && chkO n (s + 1)
theorem chkO_spec : ∀ n s, chkO n s = true → ∀ x, s ≤ x → x < s + n → ones x = popN x := by
  intro n
  induction n with
  | zero => intro s _ x h1 h2; omega
  | succ n ih =>
    intro s h x h1 h2
    simp only [chkO, Bool.and_eq_true] at h
    by_cases e : x = s
    · rw [e]; exact Nat.eq_of_beq_eq_true h.1
    · exact ih (s + 1) h.2 x (by omega) (by omega)
theorem chkO_0 : chkO 512 0 = true := by kernel_rfl
theorem chkO_1 : chkO 512 512 = true := by kernel_rfl
theorem chkO_2 : chkO 512 1024 = true := by kernel_rfl
theorem chkO_3 : chkO 512 1536 = true := by kernel_rfl
theorem chkO_4 : chkO 512 2048 = true := by kernel_rfl
theorem chkO_5 : chkO 512 2560 = true := by kernel_rfl
theorem chkO_6 : chkO 512 3072 = true := by kernel_rfl
theorem chkO_7 : chkO 512 3584 = true := by kernel_rfl
theorem chkO_8 : chkO 512 4096 = true := by kernel_rfl
theorem chkO_9 : chkO 512 4608 = true := by kernel_rfl
theorem chkO_10 : chkO 512 5120 = true := by kernel_rfl
theorem chkO_11 : chkO 512 5632 = true := by kernel_rfl
theorem chkO_12 : chkO 512 6144 = true := by kernel_rfl
theorem chkO_13 : chkO 512 6656 = true := by kernel_rfl
theorem chkO_14 : chkO 512 7168 = true := by kernel_rfl
theorem chkO_15 : chkO 512 7680 = true := by kernel_rfl
theorem chkO_16 : chkO 512 8192 = true := by kernel_rfl
theorem chkO_17 : chkO 512 8704 = true := by kernel_rfl
theorem chkO_18 : chkO 512 9216 = true := by kernel_rfl
theorem chkO_19 : chkO 512 9728 = true := by kernel_rfl
theorem chkO_20 : chkO 512 10240 = true := by kernel_rfl
theorem chkO_21 : chkO 512 10752 = true := by kernel_rfl
theorem chkO_22 : chkO 512 11264 = true := by kernel_rfl
theorem chkO_23 : chkO 512 11776 = true := by kernel_rfl
theorem chkO_24 : chkO 512 12288 = true := by kernel_rfl
theorem chkO_25 : chkO 512 12800 = true := by kernel_rfl
theorem chkO_26 : chkO 512 13312 = true := by kernel_rfl
theorem chkO_27 : chkO 512 13824 = true := by kernel_rfl
theorem chkO_28 : chkO 512 14336 = true := by kernel_rfl
theorem chkO_29 : chkO 512 14848 = true := by kernel_rfl
theorem chkO_30 : chkO 512 15360 = true := by kernel_rfl
theorem chkO_31 : chkO 512 15872 = true := by kernel_rfl
theorem chkO_32 : chkO 512 16384 = true := by kernel_rfl
theorem chkO_33 : chkO 512 16896 = true := by kernel_rfl
theorem chkO_34 : chkO 512 17408 = true := by kernel_rfl
theorem chkO_35 : chkO 512 17920 = true := by kernel_rfl
theorem chkO_36 : chkO 512 18432 = true := by kernel_rfl
theorem chkO_37 : chkO 512 18944 = true := by kernel_rfl
theorem chkO_38 : chkO 512 19456 = true := by kernel_rfl
theorem chkO_39 : chkO 512 19968 = true := by kernel_rfl
theorem chkO_40 : chkO 512 20480 = true := by kernel_rfl
theorem chkO_41 : chkO 512 20992 = true := by kernel_rfl
theorem chkO_42 : chkO 512 21504 = true := by kernel_rfl
theorem chkO_43 : chkO 512 22016 = true := by kernel_rfl
theorem chkO_44 : chkO 512 22528 = true := by kernel_rfl
theorem chkO_45 : chkO 512 23040 = true := by kernel_rfl
theorem chkO_46 : chkO 512 23552 = true := by kernel_rfl
theorem chkO_47 : chkO 512 24064 = true := by kernel_rfl
theorem chkO_48 : chkO 512 24576 = true := by kernel_rfl
theorem chkO_49 : chkO 512 25088 = true := by kernel_rfl
theorem chkO_50 : chkO 512 25600 = true := by kernel_rfl
theorem chkO_51 : chkO 512 26112 = true := by kernel_rfl
theorem chkO_52 : chkO 512 26624 = true := by kernel_rfl
theorem chkO_53 : chkO 512 27136 = true := by kernel_rfl
theorem chkO_54 : chkO 512 27648 = true := by kernel_rfl
theorem chkO_55 : chkO 512 28160 = true := by kernel_rfl
theorem chkO_56 : chkO 512 28672 = true := by kernel_rfl
theorem chkO_57 : chkO 512 29184 = true := by kernel_rfl
theorem chkO_58 : chkO 512 29696 = true := by kernel_rfl
theorem chkO_59 : chkO 512 30208 = true := by kernel_rfl
theorem chkO_60 : chkO 512 30720 = true := by kernel_rfl
theorem chkO_61 : chkO 512 31232 = true := by kernel_rfl
theorem chkO_62 : chkO 512 31744 = true := by kernel_rfl
theorem chkO_63 : chkO 512 32256 = true := by kernel_rfl

theorem ones_pop {x : Nat} (h : x < 32768) : ones x = popN x := by
  have hc : x / 512 = 0 ∨ x / 512 = 1 ∨ x / 512 = 2 ∨ x / 512 = 3 ∨ x / 512 = 4 ∨ x / 512 = 5 ∨ x / 512 = 6 ∨ x / 512 = 7 ∨ x / 512 = 8 ∨ x / 512 = 9 ∨ x / 512 = 10 ∨ x / 512 = 11 ∨ x / 512 = 12 ∨ x / 512 = 13 ∨ x / 512 = 14 ∨ x / 512 = 15 ∨ x / 512 = 16 ∨ x / 512 = 17 ∨ x / 512 = 18 ∨ x / 512 = 19 ∨ x / 512 = 20 ∨ x / 512 = 21 ∨ x / 512 = 22 ∨ x / 512 = 23 ∨ x / 512 = 24 ∨ x / 512 = 25 ∨ x / 512 = 26 ∨ x / 512 = 27 ∨ x / 512 = 28 ∨ x / 512 = 29 ∨ x / 512 = 30 ∨ x / 512 = 31 ∨ x / 512 = 32 ∨ x / 512 = 33 ∨ x / 512 = 34 ∨ x / 512 = 35 ∨ x / 512 = 36 ∨ x / 512 = 37 ∨ x / 512 = 38 ∨ x / 512 = 39 ∨ x / 512 = 40 ∨ x / 512 = 41 ∨ x / 512 = 42 ∨ x / 512 = 43 ∨ x / 512 = 44 ∨ x / 512 = 45 ∨ x / 512 = 46 ∨ x / 512 = 47 ∨ x / 512 = 48 ∨ x / 512 = 49 ∨ x / 512 = 50 ∨ x / 512 = 51 ∨ x / 512 = 52 ∨ x / 512 = 53 ∨ x / 512 = 54 ∨ x / 512 = 55 ∨ x / 512 = 56 ∨ x / 512 = 57 ∨ x / 512 = 58 ∨ x / 512 = 59 ∨ x / 512 = 60 ∨ x / 512 = 61 ∨ x / 512 = 62 ∨ x / 512 = 63 := by omega
  rcases hc with h0 | h0 | h0 | h0 | h0 | h0 | h0 | h0 | h0 | h0 | h0 | h0 | h0 | h0 | h0 | h0 | h0 | h0 | h0 | h0 | h0 | h0 | h0 | h0 | h0 | h0 | h0 | h0 | h0 | h0 | h0 | h0 | h0 | h0 | h0 | h0 | h0 | h0 | h0 | h0 | h0 | h0 | h0 | h0 | h0 | h0 | h0 | h0 | h0 | h0 | h0 | h0 | h0 | h0 | h0 | h0 | h0 | h0 | h0 | h0 | h0 | h0 | h0 | h0
  · exact chkO_spec 512 0 chkO_0 x (by omega) (by omega)
  · exact chkO_spec 512 512 chkO_1 x (by omega) (by omega)
  · exact chkO_spec 512 1024 chkO_2 x (by omega) (by omega)
  · exact chkO_spec 512 1536 chkO_3 x (by omega) (by omega)
  · exact chkO_spec 512 2048 chkO_4 x (by omega) (by omega)
  · exact chkO_spec 512 2560 chkO_5 x (by omega) (by omega)
  · exact chkO_spec 512 3072 chkO_6 x (by omega) (by omega)
  · exact chkO_spec 512 3584 chkO_7 x (by omega) (by omega)
  · exact chkO_spec 512 4096 chkO_8 x (by omega) (by omega)
  · exact chkO_spec 512 4608 chkO_9 x (by omega) (by omega)
  · exact chkO_spec 512 5120 chkO_10 x (by omega) (by omega)
  · exact chkO_spec 512 5632 chkO_11 x (by omega) (by omega)
  · exact chkO_spec 512 6144 chkO_12 x (by omega) (by omega)
  · exact chkO_spec 512 6656 chkO_13 x (by omega) (by omega)
  · exact chkO_spec 512 7168 chkO_14 x (by omega) (by omega)
  · exact chkO_spec 512 7680 chkO_15 x (by omega) (by omega)
  · exact chkO_spec 512 8192 chkO_16 x (by omega) (by omega)
  · exact chkO_spec 512 8704 chkO_17 x (by omega) (by omega)
  · exact chkO_spec 512 9216 chkO_18 x (by omega) (by omega)
  · exact chkO_spec 512 9728 chkO_19 x (by omega) (by omega)
  · exact chkO_spec 512 10240 chkO_20 x (by omega) (by omega)
  · exact chkO_spec 512 10752 chkO_21 x (by omega) (by omega)
  · exact chkO_spec 512 11264 chkO_22 x (by omega) (by omega)
  · exact chkO_spec 512 11776 chkO_23 x (by omega) (by omega)
  · exact chkO_spec 512 12288 chkO_24 x (by omega) (by omega)
  · exact chkO_spec 512 12800 chkO_25 x (by omega) (by omega)
  · exact chkO_spec 512 13312 chkO_26 x (by omega) (by omega)
  · exact chkO_spec 512 13824 chkO_27 x (by omega) (by omega)
  · exact chkO_spec 512 14336 chkO_28 x (by omega) (by omega)
  · exact chkO_spec 512 14848 chkO_29 x (by omega) (by omega)
  · exact chkO_spec 512 15360 chkO_30 x (by omega) (by omega)
  · exact chkO_spec 512 15872 chkO_31 x (by omega) (by omega)
  · exact chkO_spec 512 16384 chkO_32 x (by omega) (by omega)
  · exact chkO_spec 512 16896 chkO_33 x (by omega) (by omega)
  · exact chkO_spec 512 17408 chkO_34 x (by omega) (by omega)
  · exact chkO_spec 512 17920 chkO_35 x (by omega) (by omega)
  · exact chkO_spec 512 18432 chkO_36 x (by omega) (by omega)
  · exact chkO_spec 512 18944 chkO_37 x (by omega) (by omega)
  · exact chkO_spec 512 19456 chkO_38 x (by omega) (by omega)
  · exact chkO_spec 512 19968 chkO_39 x (by omega) (by omega)
  · exact chkO_spec 512 20480 chkO_40 x (by omega) (by omega)
  · exact chkO_spec 512 20992 chkO_41 x (by omega) (by omega)
  · exact chkO_spec 512 21504 chkO_42 x (by omega) (by omega)
  · exact chkO_spec 512 22016 chkO_43 x (by omega) (by omega)
  · exact chkO_spec 512 22528 chkO_44 x (by omega) (by omega)
  · exact chkO_spec 512 23040 chkO_45 x (by omega) (by omega)
  · exact chkO_spec 512 23552 chkO_46 x (by omega) (by omega)
  · exact chkO_spec 512 24064 chkO_47 x (by omega) (by omega)
  · exact chkO_spec 512 24576 chkO_48 x (by omega) (by omega)
  · exact chkO_spec 512 25088 chkO_49 x (by omega) (by omega)
  · exact chkO_spec 512 25600 chkO_50 x (by omega) (by omega)
  · exact chkO_spec 512 26112 chkO_51 x (by omega) (by omega)
  · exact chkO_spec 512 26624 chkO_52 x (by omega) (by omega)
  · exact chkO_spec 512 27136 chkO_53 x (by omega) (by omega)
  · exact chkO_spec 512 27648 chkO_54 x (by omega) (by omega)
  · exact chkO_spec 512 28160 chkO_55 x (by omega) (by omega)
  · exact chkO_spec 512 28672 chkO_56 x (by omega) (by omega)
  · exact chkO_spec 512 29184 chkO_57 x (by omega) (by omega)
  · exact chkO_spec 512 29696 chkO_58 x (by omega) (by omega)
  · exact chkO_spec 512 30208 chkO_59 x (by omega) (by omega)
  · exact chkO_spec 512 30720 chkO_60 x (by omega) (by omega)
  · exact chkO_spec 512 31232 chkO_61 x (by omega) (by omega)
  · exact chkO_spec 512 31744 chkO_62 x (by omega) (by omega)
  · exact chkO_spec 512 32256 chkO_63 x (by omega) (by omega)

theorem pop_bits (x : Nat) : popN x = cntB (fun k => x.testBit k) 15 := by
  have h : ∀ k, (if x.testBit k = true then 1 else 0) = x / 2 ^ k % 2 := by
    intro k
    rw [Nat.testBit_eq_decide_div_mod_eq]
    have := Nat.mod_two_eq_zero_or_one (x / 2 ^ k)
    rcases this with h | h <;> rw [h] <;> simp
  simp only [cntB, h]
  unfold popN
  simp

theorem ones_eq {x : Nat} (h : x < 32768) : ones x = cntB (fun k => x.testBit k) 15 := (ones_pop h).trans (pop_bits x)

theorem ones_mask (f : Nat → Bool) {n : Nat} (hn : n ≤ 15) : ones (maskTo f n) = cntB f n := by
  have hlt : maskTo f n < 32768 := Nat.lt_of_lt_of_le (maskTo_lt f n) (by
    have : 2 ^ n ≤ 2 ^ 15 := Nat.pow_le_pow_right (by decide) hn
    exact this)
  rw [ones_eq hlt]
  have h1 : cntB (fun k => (maskTo f n).testBit k) 15 = cntB (fun k => decide (k < n) && f k) 15 := cntB_congr _ (fun k _ => maskTo_testBit f n k)
  rw [h1]
  have key : ∀ m, n ≤ m → cntB (fun k => decide (k < n) && f k) m = cntB f n := by
    intro m
    induction m with
    | zero => intro h; have : n = 0 := by omega
              subst this; rfl
    | succ m ih =>
      intro h
      simp only [cntB]
      by_cases e : n = m + 1
      · subst e
        rw [cntB_congr m (g := f) (fun k hk => by simp; omega)]
        simp [cntB]
      · rw [ih (by omega)]
        simp; omega
  exact key 15 hn

/-- The pairs of the first j rows. -/
def pairsTo (n : Nat) (f : Nat → Nat → Bool) : Nat → Nat
  | 0 => 0
  | j + 1 => pairsTo n f j + cntB (f j) n
theorem pairsTo_le (n : Nat) (f : Nat → Nat → Bool) (j : Nat) : pairsTo n f j ≤ j * n := by
  induction j with
  | zero => exact Nat.zero_le _
  | succ j ih => simp only [pairsTo]; have := cntB_le (f j) n; rw [Nat.add_mul]; omega

end Go.Proofs.Ytpnmphfdfadlcaa

namespace Go.Proofs.Ytpnmphfdfadlcaa
open Go.RowKit

set_option maxHeartbeats 1600000 in
theorem CountRel_any (v : Value) (n : Nat) (f : Nat → Nat → Bool) (w : World) (hx : Rep IntE w v (relOf n f)) (hn : n ≤ 15) :
    Calls Try.prog 28 #[v] w fun e w' => e = .returned (.int .i64 (pairsTo n f n : Nat)) ∧ Below w.heap.size w w' := by
  have HA := hide (RelValid_any v n f w hx (by omega))
  obtain ⟨a, c, rfl, -, -, -, hx⟩ := hx.open
  simp only [relOf_length] at *
  have HX := hide hx
  have HS : Hid (∀ k, pairsTo n f (k + 1) = pairsTo n f k + cntB (f k) n) := hide (fun k => rfl)
  have hq0 : Hid (pairsTo n f 0 = 0) := hide rfl
  have HL := hide (fun k => pairsTo_le n f k)
  have HC := hide (fun k => cntB_le (f k) n)
  have HO := hide (fun k w' => OnesCount_any (maskTo (f k) n) w' (Nat.lt_of_lt_of_le (maskTo_lt (f k) n) (Nat.pow_le_pow_right (by decide : 0 < 2) hn)))
  have HM := hide (fun k => ones_mask (f k) hn)
  have HB := hide (fun k => bitsTo_mask (f k) n (by omega))
  have HT := hide (fun k => Nat.lt_of_lt_of_le (maskTo_lt (f k) n) (Nat.pow_le_pow_right (by decide : 0 < 2) hn))
  clear hx
  generalize hG : relOf n f = G at *
  have HG := hide hG; clear hG
  generalize hq : pairsTo n f = Q at *
  clear hq
  go_enter Try.func28, Try.ntmps28
  go_wp2_with fail
  (with_reducible refine HA.out.mono ?_); rintro e w0 ⟨rfl, hb0⟩
  have HB0 := hide hb0; clear hb0 HA
  go_wp2_with fail
  go_loopw [3, 11] (fun s i wr => ∃ k : Nat, k ≤ n ∧ i = .int .i64 k ∧ s = .int .i64 (Q k : Nat) ∧ wr = w0) (fun _ i _ => n - (intOf i).toNat)
  case atStart => exact ⟨0, Nat.zero_le _, rfl, by rw [hq0.out]; rfl, rfl⟩
  case round =>
    obtain ⟨k, hk, rfl, rfl, rfl⟩ := hrel
    by_cases hlt : k < n
    · have hlt' := nat_of_lt hlt
      obtain ⟨b, o, rfl, hbl, i0⟩ := (HX.out.below HB0.out).int (by rw [← HG.out]; exact relOf_get hlt)
      rw [HB.out] at i0
      have ho := HO.out k
      rw [HM.out] at ho
      have HO1 := hide ho
      have hm := HT.out k
      have hs := HS.out k
      have hl := HL.out (k + 1)
      have hc := HC.out k
      have hm2 : IntKind.u64.wrap (maskTo (f k) n : Int) = (maskTo (f k) n : Int) := by rw [IntKind.wrap_u64]; omega
      have hkn : (k + 1) * n ≤ 225 := by
        have h1 : (k + 1) * n ≤ 15 * 15 := Nat.mul_le_mul (by omega) hn
        omega
      have hq1 : wrap64 ((Q k : Int) + (cntB (f k) n : Int)) = (Q (k + 1) : Int) := by unfold wrap64; omega
      clear hs hl
      generalize maskTo (f k) n = m at *
      generalize cntB (f k) n = z at *
      go_wp2_with fail
      (with_reducible refine (HO1.out _).mono ?_); rintro e w2 ⟨rfl, rfl⟩
      go_wp2_with fail
      go_roundw
      case rel => exact ⟨k + 1, by omega, by go_num, by first | rw [← hq1] | simp [hq1], by first | exact rfl | trivial⟩
      case measure => simp [intOf]; omega
    · go_wp2_with fail
      go_ret
      obtain rfl : k = n := by omega
      exact ⟨rfl, HB0.out⟩

end Go.Proofs.Ytpnmphfdfadlcaa

namespace Go.Proofs.Ytpnmphfdfadlcaa
open Go.RowKit

def eventsV (p : List (List Ins)) : List Ev := if progValid p = true then evAll p else []

set_option maxHeartbeats 800000 in
theorem EventsOf_any (v : Value) (p : List (List Ins)) (w : World) (hp : RepP w v p) (hl : p.flatten.length ≤ 1048576) :
    Calls Try.prog 30 #[v] w (RetOwn EvE 88 w (eventsV p)) := by
  have HV := hide (ProgramValid_any v p w hp hl)
  have HE := hide (fun w' h => events_any v p w' h hl)
  have HP := hide hp
  clear hp
  have E2 : Hid (eventsV p = if progValid p = true then evAll p else []) := hide rfl
  obtain ⟨a, c, rfl, -, -, -, -⟩ := HP.out.open
  generalize progValid p = b at *
  cases b
  · have E3 : Hid (eventsV p = []) := hide (by rw [E2.out]; rfl)
    go_enter Try.func30, Try.ntmps30
    go_wp2_with fail
    (with_reducible refine HV.out.mono ?_); rintro e w1 ⟨rfl, hb1⟩
    go_wp2_with fail
    go_ret
    rw [E3.out]
    exact ⟨_, rfl, Own.nil _ _ _, hb1⟩
  · have E3 : Hid (eventsV p = evAll p) := hide (by rw [E2.out]; rfl)
    go_enter Try.func30, Try.ntmps30
    go_wp2_with fail
    (with_reducible refine HV.out.mono ?_); rintro e w1 ⟨rfl, hb1⟩
    go_wp2_with fail
    (with_reducible refine (HE.out _ (HP.out.below hb1)).mono ?_); rintro e w2 ⟨v2, rfl, o2, hb2⟩
    go_wp2_with fail
    go_ret
    rw [E3.out]
    exact ⟨_, rfl, o2.mono hb1.size, hb1.trans (hb2.mono hb1.size)⟩

set_option maxHeartbeats 800000 in
theorem wmInts_any (v v' : Value) (xs : List Int) (w : World) (hx : Rep IntE w v xs) (hy : Rep IntE w v' xs) :
    Calls Try.prog 24 #[v, v'] w fun e w' => e = .returned (.bool true) ∧ Below w.heap.size w w' := by
  obtain ⟨a, c, rfl, hc1, hc2, hc3, hx⟩ := hx.open
  obtain ⟨a', c', rfl, hc1', hc2', hc3', hy⟩ := hy.open
  have HX := hide hx; clear hx
  have HY := hide hy; clear hy
  generalize hn : xs.length = n at *
  have H := hide hn; clear hn
  have hnn : ((n : Int) != n) = false := by simp
  go_enter Try.func24, Try.ntmps24
  go_wp2_with fail
  go_loopw [5] (fun v wr => ∃ k : Nat, k ≤ n ∧ v = .int .i64 k ∧ Below w.heap.size w wr) (fun v _ => n - (intOf v).toNat)
  case atStart => exact ⟨0, Nat.zero_le _, rfl, Below.refl _ _⟩
  case round =>
    obtain ⟨k, hk, rfl, hb⟩ := hrel
    by_cases hlt : k < n
    · obtain ⟨x, hxk⟩ := get_of_lt (xs := xs) (k := k) (by rw [H.out]; exact hlt)
      obtain ⟨b, o, rfl, hbl, i0⟩ := (HX.out.below hb).int hxk
      obtain ⟨b', o', rfl, hbl', j0⟩ := (HY.out.below hb).int hxk
      have hlt' := nat_of_lt hlt
      clear hxk
      go_wp2_with fail
      refine wp_region_bw (by kernel_rfl) (by kernel_rfl) ?_
      repeat (go_big_quiet_step (fail))
      refine wpQuiet_nil ?_
      intro w1 hb1
      go_wp2_with fail
      go_roundw
      case rel => exact ⟨k + 1, by omega, by go_num, hb.trans (hb1.mono hb.size)⟩
      case measure => simp [intOf]; omega
    · have hkg : decide (k < n) = false := decide_eq_false hlt
      go_wp2_with fail
      go_ret
      exact ⟨rfl, hb⟩

end Go.Proofs.Ytpnmphfdfadlcaa

namespace Go.Proofs.Ytpnmphfdfadlcaa

theorem evOf_len (t i : Nat) (x : Ins) : (evOf t i x).length = if notFence x = true then 1 else 0 := by
  unfold evOf notFence
  by_cases h : x.op = 4
  · simp [h]
  · simp [h]
theorem evRow_len (t : Nat) (r : List Ins) : ∀ k, k ≤ r.length → (evRow t r k).length = (r.take k).countP notFence := by
  intro k
  induction k with
  | zero => intro _; simp [evRow]
  | succ k ih =>
    intro hk
    obtain ⟨x, hx⟩ := get_of_lt (xs := r) (k := k) hk
    rw [evRow_succ hx, List.length_append, ih (by omega), countP_take_succ _ hx, evOf_len]
theorem evTo_len (p : List (List Ins)) : ∀ j, j ≤ p.length → (evTo p j).length = cnt notFence (p.take j) := by
  intro j
  induction j with
  | zero => intro _; simp [evTo, cnt]
  | succ j ih =>
    intro hj
    obtain ⟨r, hr⟩ := get_of_lt (xs := p) (k := j) hj
    rw [evTo_succ hr, List.length_append, ih (by omega), cnt_take_succ _ hr, evRow_len j r r.length (Nat.le_refl _), List.take_length]
theorem evAll_le {p : List (List Ins)} (h : progValid p = true) : (evAll p).length ≤ 15 := by
  obtain ⟨-, -, -, h4, -⟩ := valid_le h
  unfold evAll
  rw [List.length_append, evHead_length, evTo_len p p.length (Nat.le_refl _), List.take_length]
  omega

end Go.Proofs.Ytpnmphfdfadlcaa

namespace Go.Proofs.Ytpnmphfdfadlcaa

theorem confB_symm (L : List Ev) (i k : Nat) : confB L i k = confB L k i := by
  unfold confB
  cases hi : L[i]? with
  | none => cases L[k]? <;> rfl
  | some a =>
    cases hk : L[k]? with
    | none => rfl
    | some b =>
      simp only
      rw [Bool.eq_iff_iff]
      simp only [Bool.and_eq_true, decide_eq_true_eq, bne_iff_ne, beq_iff_eq, Bool.or_eq_true]
      constructor
      · rintro ⟨h1, h2, h3, h4, h5⟩; exact ⟨h2, h1, fun e => h3 e.symm, h4.symm, h5.symm⟩
      · rintro ⟨h1, h2, h3, h4, h5⟩; exact ⟨h2, h1, fun e => h3 e.symm, h4.symm, h5.symm⟩
theorem inv_conf (L : List Ev) {n : Nat} (hn : n ≤ 60) : relOf n (fInv (confB L)) = relOf n (confB L) :=
  relOf_congr hn (fun i k _ _ => confB_symm L k i)

def cfE (a b : Ev) : Bool := decide (0 ≤ a.t) && (decide (0 ≤ b.t) && ((a.t != b.t) && ((a.l == b.l) && (a.w || b.w))))

theorem cnt_conf (L : List Ev) {i : Nat} {a : Ev} (hi : L[i]? = some a) : ∀ m, m ≤ L.length → cntB (confB L i) m = (L.take m).countP (cfE a) := by
  intro m
  induction m with
  | zero => intro _; simp [cntB]
  | succ m ih =>
    intro hm
    obtain ⟨b, hb⟩ := get_of_lt (xs := L) (k := m) hm
    rw [List.take_add_one, hb, List.countP_append, ← ih (by omega)]
    simp only [cntB]
    rw [confB_eq hi hb]
    simp [List.countP_cons, cfE]

theorem pairs_conf (L : List Ev) : ∀ j, j ≤ L.length → pairsTo L.length (confB L) j = ((L.take j).map fun a => L.countP (cfE a)).sum := by
  intro j
  induction j with
  | zero => intro _; simp [pairsTo]
  | succ j ih =>
    intro hj
    obtain ⟨a, ha⟩ := get_of_lt (xs := L) (k := j) hj
    rw [List.take_add_one, ha, List.map_append, List.sum_append, ← ih (by omega)]
    simp only [pairsTo]
    rw [cnt_conf L ha L.length (Nat.le_refl _), List.take_length]
    simp

theorem races_sum (p : List (List Ins)) (I K : List Gp) : (K.flatMap fun a => racesOf p a I).length = (K.map fun a => I.countP (raceB p a)).sum := by
  rw [List.length_flatMap]
  congr 1
  apply List.map_congr_left
  intro a _
  unfold racesOf
  rw [List.length_map, List.countP_eq_length_filter]

theorem countP_sum {α : Type} (B : List α) (f : α → Bool) : B.countP f = (B.map fun b => if f b = true then 1 else 0).sum := by
  induction B with
  | nil => rfl
  | cons b B ih => rw [List.countP_cons, List.map_cons, List.sum_cons, ih]; omega

theorem sum_add {α : Type} (B : List α) (f g : α → Nat) : (B.map fun b => f b + g b).sum = (B.map f).sum + (B.map g).sum := by
  induction B with
  | nil => rfl
  | cons b B ih => simp only [List.map_cons, List.sum_cons, ih]; omega
theorem sum_le {α : Type} (B : List α) (f g : α → Nat) (h : ∀ b ∈ B, f b ≤ g b) : (B.map f).sum ≤ (B.map g).sum := by
  induction B with
  | nil => exact Nat.le_refl _
  | cons b B ih =>
    simp only [List.map_cons, List.sum_cons]
    have := h b (by simp)
    have := ih (fun b hb => h b (by simp [hb]))
    omega

theorem sum_swap {α : Type} (A B : List α) (f : α → α → Bool) : (A.map fun a => B.countP (f a)).sum = (B.map fun b => A.countP (fun a => f a b)).sum := by
  induction A with
  | nil => simp; induction B with
    | nil => rfl
    | cons b B ih => simpa using ih
  | cons a A ih =>
    rw [List.map_cons, List.sum_cons, ih, countP_sum B (f a), ← sum_add]
    congr 1
    apply List.map_congr_left
    intro b _
    rw [List.countP_cons]; omega

/-- The event of an instruction's place. -/
def evG (p : List (List Ins)) (g : Gp) : Option Ev := match insAt p g with
  | some x => if x.op = 4 then none else some ⟨g.t, g.i, x.loc, isRop x.op, isWop x.op⟩
  | none => none

theorem evRow_map (p : List (List Ins)) {t : Nat} {r : List Ins} (h : p[t]? = some r) : ∀ k, k ≤ r.length → evRow t r k = (rowIns t k).filterMap (evG p) := by
  intro k
  induction k with
  | zero => intro _; simp [evRow, rowIns]
  | succ k ih =>
    intro hk
    obtain ⟨x, hx⟩ := get_of_lt (xs := r) (k := k) hk
    rw [evRow_succ hx, rowIns_succ, List.filterMap_append, ih (by omega)]
    congr 1
    have : evG p ⟨t, k⟩ = if x.op = 4 then none else some ⟨t, k, x.loc, isRop x.op, isWop x.op⟩ := by
      unfold evG
      rw [insAt_eq h hx]
    rw [List.filterMap_cons, this]
    unfold evOf
    split <;> simp
theorem evTo_map (p : List (List Ins)) : ∀ j, j ≤ p.length → evTo p j = (instrsTo p j).filterMap (evG p) := by
  intro j
  induction j with
  | zero => intro _; simp [evTo, instrsTo]
  | succ j ih =>
    intro hj
    obtain ⟨r, hr⟩ := get_of_lt (xs := p) (k := j) hj
    rw [evTo_succ hr, instrsTo_succ hr, List.filterMap_append, ih (by omega), evRow_map p hr r.length (Nat.le_refl _)]

def cfG (p : List (List Ins)) (a b : Gp) : Bool := match evG p a, evG p b with
  | some x, some y => cfE x y
  | _, _ => false

theorem race_conf {p : List (List Ins)} {a b : Gp} (ha : 0 ≤ a.t) (hb : 0 ≤ b.t) (h : raceB p a b = true) : cfG p a b = true ∧ cfG p b a = true := by
  unfold raceB at h
  simp only [Bool.and_eq_true, decide_eq_true_eq] at h
  obtain ⟨h1, h2⟩ := h
  cases hx : insAt p a with
  | none => rw [hx] at h2; simp at h2
  | some x =>
    cases hy : insAt p b with
    | none => rw [hx, hy] at h2; simp at h2
    | some y =>
      rw [hx, hy] at h2
      simp only [Bool.and_eq_true] at h2
      have h3 := h2.1
      unfold conflictB conflictR at h3
      simp only [Bool.and_eq_true, bne_iff_ne, beq_iff_eq, Bool.or_eq_true] at h3
      obtain ⟨⟨⟨o1, o2⟩, l⟩, w⟩ := h3
      unfold cfG evG
      rw [hx, hy]
      simp only [if_neg o1, if_neg o2]
      unfold cfE
      simp only [Bool.and_eq_true, decide_eq_true_eq, bne_iff_ne, beq_iff_eq, Bool.or_eq_true]
      exact ⟨⟨ha, hb, by omega, l, w⟩, hb, ha, by omega, l.symm, w.symm⟩

theorem conf_sum (p : List (List Ins)) (K I : List Gp) : ((K.filterMap (evG p)).map fun e => (I.filterMap (evG p)).countP (cfE e)).sum = (K.map fun a => I.countP (cfG p a)).sum := by
  induction K with
  | nil => rfl
  | cons a K ih =>
    rw [List.map_cons, List.sum_cons, ← ih, List.filterMap_cons]
    cases he : evG p a with
    | none =>
      have : I.countP (cfG p a) = 0 := by
        rw [List.countP_eq_zero]
        intro b _
        unfold cfG; rw [he]; simp
      rw [this]; simp
    | some e =>
      rw [List.map_cons, List.sum_cons]
      congr 1
      rw [List.countP_filterMap]
      apply List.countP_congr
      intro b _
      unfold cfG
      rw [he]
      cases evG p b <;> simp

theorem races_pairs (p : List (List Ins)) : 2 * (racesP p).length ≤ pairsTo (evAll p).length (confB (evAll p)) (evAll p).length := by
  rw [pairs_conf _ _ (Nat.le_refl _), List.take_length]
  unfold racesP racesTo
  rw [races_sum]
  have hE : evTo p p.length = (insAll p).filterMap (evG p) := evTo_map p p.length (Nat.le_refl _)
  have hpos : ∀ g ∈ insAll p, 0 ≤ g.t := by
    intro g hg
    obtain ⟨t, i, r, x, rfl, -, -, -⟩ := mem_instrsTo hg
    simp
  generalize insAll p = I at *
  have h1 : ((evTo p p.length).map fun e => (evTo p p.length).countP (cfE e)).sum ≤ ((evAll p).map fun a => (evAll p).countP (cfE a)).sum := by
    unfold evAll
    rw [List.map_append, List.sum_append]
    refine Nat.le_trans ?_ (Nat.le_add_left _ _)
    apply sum_le
    intro b _
    rw [List.countP_append]
    exact Nat.le_add_left _ _
  refine Nat.le_trans ?_ h1
  rw [hE, conf_sum, Nat.two_mul]
  conv => lhs; arg 2; rw [sum_swap I I (raceB p)]
  rw [← sum_add]
  apply sum_le
  intro a ha
  have h2 : ∀ J : List Gp, (∀ g ∈ J, 0 ≤ g.t) → J.countP (raceB p a) + J.countP (fun b => raceB p b a) ≤ J.countP (cfG p a) := by
    intro J
    induction J with
    | nil => intro _; exact Nat.le_refl _
    | cons b J ih =>
      intro hJ
      have := ih (fun g hg => hJ g (by simp [hg]))
      rw [List.countP_cons, List.countP_cons, List.countP_cons]
      have hb := hJ b (by simp)
      have h3 : (if raceB p a b = true then 1 else 0) + (if raceB p b a = true then 1 else 0) ≤ (if cfG p a b = true then 1 else 0) := by
        by_cases e1 : raceB p a b = true
        · have hc := (race_conf (hpos a ha) hb e1).1
          have e2 : raceB p b a = false := by
            cases e : raceB p b a with
            | false => rfl
            | true =>
              unfold raceB at e1 e
              simp only [Bool.and_eq_true, decide_eq_true_eq] at e1 e
              omega
          rw [if_pos e1, if_pos hc, e2]; simp
        · rw [if_neg e1]
          by_cases e2 : raceB p b a = true
          · have hc := (race_conf hb (hpos a ha) e2).2
            rw [if_pos e2, if_pos hc]; omega
          · rw [if_neg e2]; exact Nat.zero_le _
      omega
  exact h2 I hpos

end Go.Proofs.Ytpnmphfdfadlcaa

namespace Go.Proofs.Ytpnmphfdfadlcaa
open Go.RowKit

theorem conflictV_le (p : List (List Ins)) : (conflictV p).length ≤ 60 := by
  unfold conflictV
  split
  · rename_i h
    obtain ⟨hv1, hv2, hv3, -, -⟩ := valid_le h
    have hfl := flatten_le7' (p := p) (fun r hr => (hv3 r hr).1)
    unfold conflicts
    rw [relOf_length]
    have := evAll_length p
    omega
  · simp

set_option maxHeartbeats 400000 in
theorem sConflictRel_any (v : Value) (p : List (List Ins)) (w : World) (hp : RepP w v p) (hl : p.flatten.length ≤ 1048576) (hpl : p.length ≤ 1048576) :
    Calls Try.prog 25 #[v] w (RetOwn IntE 3 w (conflictV p)) := by
  have HP := hide hp; clear hp
  have HV := hide (fun w' h => sProgramValid_any v p w' h hl hpl)
  have E2 : Hid (conflictV p = if progValid p = true then conflicts p else []) := hide rfl
  have HF : Hid (progValid p = true → p.flatten.length ≤ 50) := hide (fun h => by
    obtain ⟨hv1, -, hv3, -, -⟩ := valid_le h
    have := flatten_le7' (p := p) (fun r hr => (hv3 r hr).1)
    omega)
  obtain ⟨a, c, rfl, -, -, -, -⟩ := HP.out.open
  generalize progValid p = b at *
  cases b
  · have E3 : Hid (conflictV p = []) := hide (by rw [E2.out]; rfl)
    go_enter Try.func25, Try.ntmps25
    go_wp2_with fail
    (with_reducible refine (HV.out _ HP.out).mono ?_); rintro e w1 ⟨rfl, hb1⟩
    go_wp2_with fail
    go_ret
    rw [E3.out]
    exact ⟨_, rfl, Own.empty (E := IntE) 3 w1 hb1.size, hb1.alloc hb1.size _⟩
  · have E3 : Hid (conflictV p = conflicts p) := hide (by rw [E2.out]; rfl)
    have HC := hide (fun w' h => l10Conflicts_any (.slice a p.length c) p w' h (HF.out rfl))
    go_enter Try.func25, Try.ntmps25
    go_wp2_with fail
    (with_reducible refine (HV.out _ HP.out).mono ?_); rintro e w1 ⟨rfl, hb1⟩
    go_wp2_with fail
    (with_reducible refine (HC.out _ (HP.out.below hb1)).mono ?_); rintro e w2 ⟨v2, rfl, o2, hb2⟩
    go_wp2_with fail
    go_ret
    rw [E3.out]
    exact ⟨_, rfl, o2.mono hb1.size, hb1.trans (hb2.mono hb1.size)⟩

end Go.Proofs.Ytpnmphfdfadlcaa

namespace Go.Proofs.Ytpnmphfdfadlcaa
open Go.RowKit

/-- Some program of bounded size. -/
def RetProg (w : World) (e : Ending) (w' : World) : Prop := ∃ (v : Value) (P : List (List Ins)), e = .returned v ∧ RepP w' v P ∧ P.length ≤ 5 ∧ (∀ r ∈ P, r.length ≤ 9) ∧ Below w.heap.size w w'
def RetProgI (w : World) (e : Ending) (w' : World) : Prop := ∃ (v : Value) (P : List (List Ins)) (y : Int), e = .returned (.tuple #[v, .int .i64 y]) ∧ RepP w' v P ∧ P.length ≤ 5 ∧ (∀ r ∈ P, r.length ≤ 9) ∧ Below w.heap.size w w'

theorem flatten_bound9 {P : List (List Ins)} (hl : P.length ≤ 5) (h : ∀ r ∈ P, r.length ≤ 9) : P.flatten.length ≤ 45 := by
  have := flatten_bound P 9 h
  have : P.length * 9 ≤ 5 * 9 := Nat.mul_le_mul_right _ hl
  omega

set_option maxRecDepth 100000 in
set_option maxHeartbeats 800000 in
theorem DrawRacesOf_any (v : Value) (xs0 : List Int) (w : World) (hx : Rep ByteE w v xs0) (hb : ∀ x ∈ xs0, 0 ≤ x ∧ x ≤ 255) :
    Calls Try.prog 82 #[v] w (RetProg w) := by
  have HO := hide (l17Open_any v xs0 w hx hb)
  clear hx hb
  go_enter Try.func82, Try.ntmps82
  go_wp2_with fail
  (with_reducible refine HO.out.mono ?_); rintro e w1 ⟨b, a, c, xs, rfl, hr1, hbs, hb1⟩
  have R1 := hide hr1; have HB1 := hide hb1
  clear hr1 hb1 HO
  have hlt := R1.out.lt
  go_wp2_with fail
  (with_reducible refine (l10Draw_any b a c xs 0 _ R1.out (by omega)).mono ?_); rintro e w2 ⟨v2, p2, rfl, hQ, hp2, hr2, ho2⟩
  obtain ⟨P, hP, hl, hl2⟩ := hQ
  have R2 := hide hr2; have O2 := hide ho2; have HP := hide hP; have HL2 := hide hl2
  clear hr2 ho2 hP hl2 R1
  go_wp2_with fail
  (with_reducible refine (l1Mutate_any b a c xs p2 v2 P _ R2.out (by omega) HP.out.rep hl HL2.out).mono ?_); rintro e w3 ⟨v3, p3, rfl, hQ3, hp3, hr3, ho3⟩
  obtain ⟨P3, hP3, hl3, hl4⟩ := hQ3.open
  have HL4 := hide hl4
  have HB3 := hide (HB1.out.trans (below_of_outside (O2.out.trans ho3) hbs HB1.out.size))
  clear hr3 ho3 hQ3 hl4
  go_wp2_with fail
  go_ret
  exact ⟨_, P3, rfl, hP3, hl3, HL4.out, HB3.out⟩

theorem DrawConflictRel_any (v : Value) (xs0 : List Int) (w : World) (hx : Rep ByteE w v xs0) (hb : ∀ x ∈ xs0, 0 ≤ x ∧ x ≤ 255) :
    Calls Try.prog 22 #[v] w (RetProg w) := by
  have HO := hide (DrawRacesOf_any v xs0 w hx hb)
  clear hx hb
  go_enter Try.func22, Try.ntmps22
  go_wp2_with fail
  (with_reducible refine HO.out.mono ?_); rintro e w1 ⟨v1, P, rfl, hP, hl, hl2, hb1⟩
  have HL2 := hide hl2
  clear hl2
  go_wp2_with fail
  go_ret
  exact ⟨_, P, rfl, hP, hl, HL2.out, hb1⟩

end Go.Proofs.Ytpnmphfdfadlcaa

namespace Go.Proofs.Ytpnmphfdfadlcaa
open Go.RowKit

set_option maxRecDepth 100000 in
set_option maxHeartbeats 6400000 in
theorem lawFnConflictRel (v : Value) (xs : List Int) (w : World) (h : Rep ByteE w v xs ∧ ∀ x ∈ xs, 0 ≤ x ∧ x ≤ 255) :
    Calls Try.prog 4 #[v] w fun e w' => e = .returned (.bool true) ∧ Below w.heap.size w w' := by
  obtain ⟨hx, hb⟩ := h
  obtain ⟨a0, c0, rfl, -, hm, -, hx⟩ := hx.open
  have HD := hide (DrawConflictRel_any (.slice a0 xs.length c0) xs w hx hb)
  clear hx hb
  generalize xs.length = n at *
  by_cases hl : (n : Int) > 1048576
  · go_enter Try.func4, Try.ntmps4
    go_wp2_with fail
    go_ret
    exact ⟨rfl, Below.refl _ _⟩
  · have hl' : decide ((n : Int) > 1048576) = false := decide_eq_false hl
    go_enter Try.func4, Try.ntmps4
    go_wp2_with fail
    (with_reducible refine HD.out.mono ?_); rintro e w1 ⟨v1, P, rfl, hP, hPl, hPr, hb1⟩
    have hfl := flatten_bound9 hPl hPr
    obtain ⟨pa, pc, rfl, hpc1, hpc2, hpc3, hP⟩ := hP.open
    have HP := hide hP; have HB1 := hide hb1
    have HI := hide (fun w' h => ConflictRel_any (.slice pa P.length pc) P w' h (by omega))
    have HS := hide (fun w' h => sConflictRel_any (.slice pa P.length pc) P w' h (by omega) (by omega))
    have HV := hide (fun w' h => ProgramValid_any (.slice pa P.length pc) P w' h (by omega))
    have HR := hide (fun w' h => RacesOf_any (.slice pa P.length pc) P w' h (by omega))
    have HE := hide (fun w' h => EventsOf_any (.slice pa P.length pc) P w' h (by omega))
    have HG : Hid (conflictV P = if progValid P = true then conflicts P else []) := hide rfl
    have HGE : Hid (eventsV P = if progValid P = true then evAll P else []) := hide rfl
    have HGR : Hid (racesV P = if progValid P = true then racesP P else []) := hide rfl
    have HGC : Hid (conflicts P = relOf (evAll P).length (confB (evAll P))) := hide rfl
    have HLE := hide (fun h => evAll_le (p := P) h)
    have HPP := hide (races_pairs P)
    have HPL := hide (pairsTo_le (evAll P).length (confB (evAll P)) (evAll P).length)
    clear hP hb1 HD hPr hfl hPl
    generalize hpn : P.length = pn at *
    clear hpn
    have HIV := hide (fun h => inv_conf (evAll P) (n := (evAll P).length) h)
    have HCR := hide (fun v w' h h2 => CountRel_any v (evAll P).length (confB (evAll P)) w' h h2)
    have HIR := hide (fun v w' h h2 => InverseRel_any v (evAll P).length (confB (evAll P)) w' h h2)
    have HLL := hide (relOf_length (evAll P).length (confB (evAll P)))
    generalize relOf (evAll P).length (confB (evAll P)) = G at *
    generalize pairsTo (evAll P).length (confB (evAll P)) (evAll P).length = q at *
    generalize relOf (evAll P).length (fInv (confB (evAll P))) = G2 at *
    generalize conflicts P = G3 at *
    generalize eventsV P = E at *
    generalize racesV P = R at *
    generalize racesP P = R2 at *
    generalize evAll P = L at *
    generalize conflictV P = G4 at *
    generalize progValid P = b at *
    go_wp2_with fail
    (with_reducible refine (HI.out _ HP.out).mono ?_); rintro e w2 ⟨vl, rfl, o2, hb2⟩
    obtain ⟨la, ln, lc, rfl, hln⟩ := o2.toSl
    have O2 : Hid (Rep IntE w2 (.slice la ln lc) G4) := hide o2.rep
    have HB2 := hide (HB1.out.trans (hb2.mono HB1.out.size)); have HP2 := hide (HP.out.below hb2)
    have HLN : Hid (ln = G4.length) := hide hln
    clear o2 hb2 HI HP HB1 hln
    go_wp2_with fail
    (with_reducible refine (HS.out _ HP2.out).mono ?_); rintro e w3 ⟨vs, rfl, o3, hb3⟩
    have R3 := hide o3.rep; have HB3 := hide (HB2.out.trans (hb3.mono HB2.out.size)); have HP3 := hide (HP2.out.below hb3); have O3 := hide (O2.out.below hb3)
    clear o3 hb3 HP2 HB2 O2
    go_wp2_with fail
    (with_reducible refine (wmInts_any _ vs G4 _ O3.out R3.out).mono ?_); rintro e w4 ⟨rfl, hb4⟩
    have HB4 := hide (HB3.out.trans (hb4.mono HB3.out.size)); have HP4 := hide (HP3.out.below hb4); have O4 := hide (O3.out.below hb4)
    clear hb4 HB3 HP3 R3 O3
    go_wp2_with fail
    (with_reducible refine (HV.out _ HP4.out).mono ?_); rintro e w5 ⟨rfl, hb5⟩
    have HB5 := hide (HB4.out.trans (hb5.mono HB4.out.size)); have HP5 := hide (HP4.out.below hb5); have O5 := hide (O4.out.below hb5)
    clear hb5 HB4 HP4 O4 HV
    cases b
    · have h4 : G4 = [] := HG.out
      subst h4
      have h5 : ln = 0 := HLN.out
      subst h5
      go_wp2_with fail
      (with_reducible refine (HS.out _ HP5.out).mono ?_); rintro e w6 ⟨vt, rfl, o6, hb6⟩
      have R6 := hide o6.rep; have HB6 := hide (HB5.out.trans (hb6.mono HB5.out.size)); have O6 := hide (O5.out.below hb6)
      clear o6 hb6
      go_wp2_with fail
      (with_reducible refine (wmInts_any _ vt [] _ O6.out R6.out).mono ?_); rintro e w7 ⟨rfl, hb7⟩
      go_wp2_with fail
      go_ret
      exact ⟨rfl, HB6.out.trans (hb7.mono HB6.out.size)⟩
    · have h4 : G4 = G := HG.out.trans HGC.out
      subst h4
      have h5 : E = L := HGE.out
      subst h5
      have h6 : R = R2 := HGR.out
      subst h6
      have h7 := HLE.out rfl
      have h8 := HIV.out (by omega)
      subst h8
      have hlnE : ln = E.length := HLN.out.trans HLL.out
      have hpp := HPP.out
      have H7 := hide h7; have H8 := hide hlnE; have H9 := hide hpp
      clear h7 hlnE hpp HLN
      go_wp2_with fail
      (with_reducible refine (HIR.out _ _ O5.out (by have := H7.out; omega)).mono ?_); rintro e w6 ⟨vt, rfl, o6, hb6⟩
      have R6 := hide o6.rep; have HB6 := hide (HB5.out.trans (hb6.mono HB5.out.size)); have O6 := hide (O5.out.below hb6); have HP6 := hide (HP5.out.below hb6)
      clear o6 hb6 HIR HB5 O5 HP5
      go_wp2_with fail
      (with_reducible refine (wmInts_any vt _ _ _ R6.out O6.out).mono ?_); rintro e w7 ⟨rfl, hb7⟩
      have HB7 := hide (HB6.out.trans (hb7.mono HB6.out.size)); have O7 := hide (O6.out.below hb7); have HP7 := hide (HP6.out.below hb7)
      clear hb7 HB6 O6 HP6 R6
      go_wp2_with fail
      (with_reducible refine (HCR.out _ _ O7.out H7.out).mono ?_); rintro e w8 ⟨rfl, hb8⟩
      have HB8 := hide (HB7.out.trans (hb8.mono HB7.out.size)); have HP8 := hide (HP7.out.below hb8)
      clear hb8 HB7 O7 HP7
      go_wp2_with fail
      (with_reducible refine (HR.out _ HP8.out).mono ?_); rintro e w9 ⟨vr, rfl, o9, hb9⟩
      obtain ⟨ra, rn, rc, rfl, hrn⟩ := o9.toSl
      have hrn2 : 2 * rn ≤ q := by rw [hrn]; exact H9.out
      have hq225 : q ≤ 225 := Nat.le_trans HPL.out (Nat.mul_le_mul H7.out H7.out)
      have hw : wrap64 (2 * (rn : Int)) = 2 * (rn : Int) := by unfold wrap64; omega
      have hge : 2 * (rn : Int) ≤ (q : Int) := by omega
      have HB9 := hide (HB8.out.trans (hb9.mono HB8.out.size)); have HP9 := hide (HP8.out.below hb9)
      clear hb9 HB8 HP8 o9 hrn
      go_wp2_with fail
      (with_reducible refine (HE.out _ HP9.out).mono ?_); rintro e w10 ⟨ve, rfl, o10, hb10⟩
      obtain ⟨ea, en, ec, rfl, hen⟩ := o10.toSl
      have he : ln = en := by rw [hen]; exact H8.out
      subst he
      have HB10 := hide (HB9.out.trans (hb10.mono HB9.out.size))
      clear hb10 HB9 HP9 o10 hen
      go_wp2_with fail
      go_ret
      exact ⟨rfl, HB10.out⟩

end Go.Proofs.Ytpnmphfdfadlcaa

namespace Go.Proofs.Ytpnmphfdfadlcaa
open Go.RowKit Go.ChangeShapes Go.WideShapes Go.ChangeAt
open Go.ChangeMaps (open_string)

theorem fnConflictRel_reads : ∀ t ∈ Try.f4.params.toList, Try.prog.readableRec t = true ∧ t < Try.prog.types.size := by
  intro t ht
  have : t = 22 := by simpa [Try.params4] using ht
  subst this
  exact ⟨by kernel_rfl, of_decide_eq_true (by kernel_rfl)⟩

set_option maxRecDepth 100000 in
theorem fnConflictRel_lifted (os : Os) (started : os.Started) (H : Type) (enc : TypeId × Value → H) :
    ReturnsInHanded {} Try.checked os 4 .any (Rows.fnConflictRelSpec.pre6 enc Try.prog Try.f4 Rows.fnConflictRelRow.domain false) (Rows.fnConflictRelSpec.post enc Try.prog Try.f4 false true false false) := by
  refine returnsInHanded_of_change (C := Try.checked) Try.own started (by kernel_rfl) Try.func4
    (ChangeSpec.witness6 (enc := enc) (C := Try.checked) false ⟨#[], #[.slice none 0 0], []⟩ 8 (by kernel_rfl) (by kernel_rfl) (by kernel_rfl) (by kernel_rfl)) ?_
  intro W base args ds gs before hval0 hW hcnd _
  have hval : ∀ (j : Nat) t v, Try.f4.params[j]? = some t → args[j]? = some v → Value.okWide Try.prog W .any base t v := hval0
  have hW' := hW
  obtain ⟨p, q, hA0, hV, rfl, hfz, hnd⟩ := hW
  have hA : DataW.TrodAll enc Try.prog W 0 (fun _ => true) true Try.f4.params.toList args.toList ds p := hA0
  rw [Try.params4] at hA hval
  obtain ⟨v0, d0, rfl, rfl, h0⟩ := trodAll_one hA
  obtain ⟨rfl, rfl⟩ := trodVars_none hV
  obtain ⟨B0, hB0⟩ := bytes_of_trod (okWide_slice Try.underlying22 (hval 0 22 v0 rfl rfl)) h0
  refine (lawFnConflictRel v0 B0 W hB0).mono fun e W' ⟨he, hb⟩ => ?_
  exact ⟨_, he, post_law Try.laidOut fnConflictRel_reads rfl rfl (by kernel_rfl) Try.underlying4 hW' hb⟩

theorem fnConflictRel_holds : Rows.FnConflictRelSaid :=
  OpenClaim.holds_of_wide 4 Try.f4 rfl rfl rfl rfl rfl rfl rfl ⟨rfl, rfl, rfl, rfl, rfl⟩ rfl rfl rfl rfl rfl (by kernel_rfl) Try.func4 (by kernel_rfl)
    (of_decide_eq_true (by kernel_rfl)) (by unfold Func.isWrapper; first | (rw [if_pos (by decide +kernel)]; kernel_rfl) | (rw [if_neg (by decide +kernel)]; exact ⟨rfl, rfl⟩))
    (fun os started H enc _ => fnConflictRel_lifted os started H enc)

end Go.Proofs.Ytpnmphfdfadlcaa
