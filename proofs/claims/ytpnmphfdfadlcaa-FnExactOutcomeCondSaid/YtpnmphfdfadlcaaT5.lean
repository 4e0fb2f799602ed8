/-
  What a node of a condition is, in the program and in the reference. No condition.
-/
import Derived.Test.YtpnmphfdfadlcaaP6
import Derived.Test.YtpnmphfdfadlcaaF3
import Derived.Test.YtpnmphfdfadlcaaT2
namespace Go.Proofs.Ytpnmphfdfadlcaa
open Go.RowKit

theorem nat_eq_int (n k : Nat) : ((n : Int) == (k : Int)) = decide (n = k) := by rw [Bool.eq_iff_iff]; simp only [beq_iff_eq, decide_eq_true_eq]; omega
theorem nodeR_1 (t p x : Int) (n : Nat) : nodeR 1 t p x n = (inB t 0 2 && (inB p 0 2 && (inB x 0 3 && ((n : Int) == ((0 : Nat) : Int))))) := by
  rw [nat_eq_int]; simp [nodeR, inR, inB, Bool.and_assoc]
theorem nodeR_2 (t p x : Int) (n : Nat) : nodeR 2 t p x n = ((t == 0) && (inB p 0 2 && (inB x 0 3 && ((n : Int) == ((0 : Nat) : Int))))) := by
  rw [nat_eq_int]; simp [nodeR, inR, inB, Bool.and_assoc]; rw [show (t == 0) = decide (t = 0) from rfl]
theorem nodeR_3 (o t p x : Int) (n : Nat) (h : o = 3 ∨ o = 4) : nodeR o t p x n = ((t == 0) && ((p == 0) && ((x == 0) && ((n : Int) == ((2 : Nat) : Int))))) := by
  rw [nat_eq_int]
  rcases h with rfl | rfl <;> simp [nodeR, Bool.and_assoc] <;> rfl
theorem nodeR_5 (t p x : Int) (n : Nat) : nodeR 5 t p x n = ((t == 0) && ((p == 0) && ((x == 0) && ((n : Int) == ((1 : Nat) : Int))))) := by
  rw [nat_eq_int]; simp [nodeR, Bool.and_assoc]; rfl
theorem nodeR_0 (o t p x : Int) (n : Nat) (h1 : o ≠ 1) (h2 : o ≠ 2) (h3 : o ≠ 3) (h4 : o ≠ 4) (h5 : o ≠ 5) : nodeR o t p x n = false := by
  simp [nodeR, h1, h2, h3, h4, h5]

set_option maxHeartbeats 1600000 in
theorem isCondNode_raw (o t p x : Int) (a : Option Addr) (n c : Nat) (w : World) :
    Calls Try.prog 154 #[.agg #[.int .i64 o, .int .i64 t, .int .i64 p, .int .i64 x, .slice a n c]] w fun e w' => e = .returned (.bool (nodeR o t p x n)) ∧ Below w.heap.size w w' := by
  have HB := hide ((Below.refl w.heap.size w).alloc (Nat.le_refl _) (.cells #[.int .i64 o, .int .i64 t, .int .i64 p, .int .i64 x, .slice a n c] 25))
  by_cases h1 : o = 1
  · subst h1
    have E := hide (nodeR_1 t p x n)
    generalize nodeR 1 t p x n = R at *
    have HA := hide (fun w' => within_any t 0 2 w')
    generalize inB t 0 2 = A at *
    have HBB := hide (fun w' => within_any p 0 2 w')
    generalize inB p 0 2 = B at *
    have HC := hide (fun w' => within_any x 0 3 w')
    generalize inB x 0 3 = C at *
    cases A
    · go_enter Try.func154, Try.ntmps154
      go_wp2_with (first | (go_at_call 86; (with_reducible refine (HA.out _).mono ?_); rintro e w1 ⟨rfl, rfl⟩) | (go_at_call 86; (with_reducible refine (HBB.out _).mono ?_); rintro e w1 ⟨rfl, rfl⟩) | (go_at_call 86; (with_reducible refine (HC.out _).mono ?_); rintro e w1 ⟨rfl, rfl⟩))
      go_ret
      exact ⟨by rw [E.out]; rfl, HB.out⟩
    · cases B
      · go_enter Try.func154, Try.ntmps154
        go_wp2_with (first | (go_at_call 86; (with_reducible refine (HA.out _).mono ?_); rintro e w1 ⟨rfl, rfl⟩) | (go_at_call 86; (with_reducible refine (HBB.out _).mono ?_); rintro e w1 ⟨rfl, rfl⟩) | (go_at_call 86; (with_reducible refine (HC.out _).mono ?_); rintro e w1 ⟨rfl, rfl⟩))
        go_ret
        exact ⟨by rw [E.out]; rfl, HB.out⟩
      · cases C
        · go_enter Try.func154, Try.ntmps154
          go_wp2_with (first | (go_at_call 86; (with_reducible refine (HA.out _).mono ?_); rintro e w1 ⟨rfl, rfl⟩) | (go_at_call 86; (with_reducible refine (HBB.out _).mono ?_); rintro e w1 ⟨rfl, rfl⟩) | (go_at_call 86; (with_reducible refine (HC.out _).mono ?_); rintro e w1 ⟨rfl, rfl⟩))
          go_ret
          exact ⟨by rw [E.out]; rfl, HB.out⟩
        · go_enter Try.func154, Try.ntmps154
          go_wp2_with (first | (go_at_call 86; (with_reducible refine (HA.out _).mono ?_); rintro e w1 ⟨rfl, rfl⟩) | (go_at_call 86; (with_reducible refine (HBB.out _).mono ?_); rintro e w1 ⟨rfl, rfl⟩) | (go_at_call 86; (with_reducible refine (HC.out _).mono ?_); rintro e w1 ⟨rfl, rfl⟩))
          go_ret
          exact ⟨by rw [E.out]; rfl, HB.out⟩
  by_cases h2 : o = 2
  · subst h2
    have E := hide (nodeR_2 t p x n)
    generalize nodeR 2 t p x n = R at *
    generalize hA : (t == 0) = A at *
    have HBB := hide (fun w' => within_any p 0 2 w')
    generalize inB p 0 2 = B at *
    have HC := hide (fun w' => within_any x 0 3 w')
    generalize inB x 0 3 = C at *
    cases A
    · go_enter Try.func154, Try.ntmps154
      go_wp2_with (first | (go_at_call 86; (with_reducible refine (HBB.out _).mono ?_); rintro e w1 ⟨rfl, rfl⟩) | (go_at_call 86; (with_reducible refine (HC.out _).mono ?_); rintro e w1 ⟨rfl, rfl⟩))
      go_ret
      exact ⟨by rw [E.out]; rfl, HB.out⟩
    · cases B
      · go_enter Try.func154, Try.ntmps154
        go_wp2_with (first | (go_at_call 86; (with_reducible refine (HBB.out _).mono ?_); rintro e w1 ⟨rfl, rfl⟩) | (go_at_call 86; (with_reducible refine (HC.out _).mono ?_); rintro e w1 ⟨rfl, rfl⟩))
        go_ret
        exact ⟨by rw [E.out]; rfl, HB.out⟩
      · cases C
        · go_enter Try.func154, Try.ntmps154
          go_wp2_with (first | (go_at_call 86; (with_reducible refine (HBB.out _).mono ?_); rintro e w1 ⟨rfl, rfl⟩) | (go_at_call 86; (with_reducible refine (HC.out _).mono ?_); rintro e w1 ⟨rfl, rfl⟩))
          go_ret
          exact ⟨by rw [E.out]; rfl, HB.out⟩
        · go_enter Try.func154, Try.ntmps154
          go_wp2_with (first | (go_at_call 86; (with_reducible refine (HBB.out _).mono ?_); rintro e w1 ⟨rfl, rfl⟩) | (go_at_call 86; (with_reducible refine (HC.out _).mono ?_); rintro e w1 ⟨rfl, rfl⟩))
          go_ret
          exact ⟨by rw [E.out]; rfl, HB.out⟩
  by_cases h3 : o = 3
  · subst h3
    have E := hide (nodeR_3 3 t p x n (.inl rfl))
    generalize nodeR 3 t p x n = R at *
    generalize hA : (t == 0) = A at *
    generalize hB : (p == 0) = B at *
    generalize hC : (x == 0) = C at *
    cases A
    · go_enter Try.func154, Try.ntmps154
      go_wp2_with fail
      go_ret
      exact ⟨by rw [E.out]; rfl, HB.out⟩
    · cases B
      · go_enter Try.func154, Try.ntmps154
        go_wp2_with fail
        go_ret
        exact ⟨by rw [E.out]; rfl, HB.out⟩
      · cases C
        · go_enter Try.func154, Try.ntmps154
          go_wp2_with fail
          go_ret
          exact ⟨by rw [E.out]; rfl, HB.out⟩
        · go_enter Try.func154, Try.ntmps154
          go_wp2_with fail
          go_ret
          exact ⟨by rw [E.out]; rfl, HB.out⟩
  by_cases h4 : o = 4
  · subst h4
    have E := hide (nodeR_3 4 t p x n (.inr rfl))
    generalize nodeR 4 t p x n = R at *
    generalize hA : (t == 0) = A at *
    generalize hB : (p == 0) = B at *
    generalize hC : (x == 0) = C at *
    cases A
    · go_enter Try.func154, Try.ntmps154
      go_wp2_with fail
      go_ret
      exact ⟨by rw [E.out]; rfl, HB.out⟩
    · cases B
      · go_enter Try.func154, Try.ntmps154
        go_wp2_with fail
        go_ret
        exact ⟨by rw [E.out]; rfl, HB.out⟩
      · cases C
        · go_enter Try.func154, Try.ntmps154
          go_wp2_with fail
          go_ret
          exact ⟨by rw [E.out]; rfl, HB.out⟩
        · go_enter Try.func154, Try.ntmps154
          go_wp2_with fail
          go_ret
          exact ⟨by rw [E.out]; rfl, HB.out⟩
  by_cases h5 : o = 5
  · subst h5
    have E := hide (nodeR_5 t p x n)
    generalize nodeR 5 t p x n = R at *
    generalize hA : (t == 0) = A at *
    generalize hB : (p == 0) = B at *
    generalize hC : (x == 0) = C at *
    cases A
    · go_enter Try.func154, Try.ntmps154
      go_wp2_with fail
      go_ret
      exact ⟨by rw [E.out]; rfl, HB.out⟩
    · cases B
      · go_enter Try.func154, Try.ntmps154
        go_wp2_with fail
        go_ret
        exact ⟨by rw [E.out]; rfl, HB.out⟩
      · cases C
        · go_enter Try.func154, Try.ntmps154
          go_wp2_with fail
          go_ret
          exact ⟨by rw [E.out]; rfl, HB.out⟩
        · go_enter Try.func154, Try.ntmps154
          go_wp2_with fail
          go_ret
          exact ⟨by rw [E.out]; rfl, HB.out⟩
  have E := hide (nodeR_0 o t p x n h1 h2 h3 h4 h5)
  generalize nodeR o t p x n = R at *
  have g1 : (o == 1) = false := by simp [h1]
  have g2 : (o == 2) = false := by simp [h2]
  have g3 : (o == 3) = false := by simp [h3]
  have g4 : (o == 4) = false := by simp [h4]
  have g5 : (o == 5) = false := by simp [h5]
  clear h1 h2 h3 h4 h5
  go_enter Try.func154, Try.ntmps154
  go_wp2_with fail
  go_ret
  exact ⟨by rw [E.out]; rfl, HB.out⟩
theorem l11Kids_1 (w : World) : Calls Try.prog 212 #[.int .i64 1] w fun e w' => e = .returned (.int .i64 0) ∧ w = w' := by
  go_enter Try.func212, Try.ntmps212
  go_wp2
  go_ret
  exact ⟨rfl, rfl⟩
theorem l11Kids_2 (w : World) : Calls Try.prog 212 #[.int .i64 2] w fun e w' => e = .returned (.int .i64 0) ∧ w = w' := by
  go_enter Try.func212, Try.ntmps212
  go_wp2
  go_ret
  exact ⟨rfl, rfl⟩
theorem l11Kids_3 (w : World) : Calls Try.prog 212 #[.int .i64 3] w fun e w' => e = .returned (.int .i64 2) ∧ w = w' := by
  go_enter Try.func212, Try.ntmps212
  go_wp2
  go_ret
  exact ⟨rfl, rfl⟩
theorem l11Kids_4 (w : World) : Calls Try.prog 212 #[.int .i64 4] w fun e w' => e = .returned (.int .i64 2) ∧ w = w' := by
  go_enter Try.func212, Try.ntmps212
  go_wp2
  go_ret
  exact ⟨rfl, rfl⟩
theorem l11Kids_5 (w : World) : Calls Try.prog 212 #[.int .i64 5] w fun e w' => e = .returned (.int .i64 1) ∧ w = w' := by
  go_enter Try.func212, Try.ntmps212
  go_wp2
  go_ret
  exact ⟨rfl, rfl⟩
theorem l11Kids_0 (o : Int) (w : World) (g1 : (o == 1) = false) (g2 : (o == 2) = false) (g3 : (o == 3) = false) (g4 : (o == 4) = false) (g5 : (o == 5) = false) : Calls Try.prog 212 #[.int .i64 o] w fun e w' => e = .returned (.int .i64 (-1)) ∧ w = w' := by
  go_enter Try.func212, Try.ntmps212
  go_wp2_with fail
  go_ret
  exact ⟨rfl, rfl⟩
set_option maxHeartbeats 1600000 in
theorem l11Own_raw (o t p x : Int) (a : Option Addr) (n c : Nat) (w : World) :
    Calls Try.prog 155 #[.agg #[.int .i64 o, .int .i64 t, .int .i64 p, .int .i64 x, .slice a n c]] w fun e w' => e = .returned (.bool (nodeR o t p x n)) ∧ Below w.heap.size w w' := by
  have HB := hide ((Below.refl w.heap.size w).alloc (Nat.le_refl _) (.cells #[.int .i64 o, .int .i64 t, .int .i64 p, .int .i64 x, .slice a n c] 25))
  by_cases h1 : o = 1
  · subst h1
    have E0 := hide (nodeR_1 t p x n)
    generalize nodeR 1 t p x n = R at *
    have HA := hide (fun w' => l1In_any t 2 w')
    generalize inB t 0 2 = A at *
    have HBB := hide (fun w' => l1In_any p 2 w')
    generalize inB p 0 2 = B at *
    have HC := hide (fun w' => l1In_any x 3 w')
    generalize inB x 0 3 = C at *
    by_cases hn : n = 0
    · subst hn
      have E : Hid (R = (A && (B && C))) := hide (by rw [E0.out]; simp)
      cases A
      · go_enter Try.func155, Try.ntmps155
        go_wp2_with fail
        refine wp_region_bw (by kernel_rfl) (by kernel_rfl) ?_
        repeat (go_big_quiet_step ((go_at_call 212; exact Calls.bw_same (l11Kids_1 _))))
        refine wpQuiet_nil ?_
        intro w1 hb1
        obtain ⟨hc1, hf1⟩ := bcell hb1
        have HB1 := hide hb1; clear hb1
        go_wp2_with (first | (go_at_call 182; (with_reducible refine (HA.out _).mono ?_); rintro e w2 ⟨rfl, rfl⟩) | (go_at_call 182; (with_reducible refine (HBB.out _).mono ?_); rintro e w2 ⟨rfl, rfl⟩) | (go_at_call 182; (with_reducible refine (HC.out _).mono ?_); rintro e w2 ⟨rfl, rfl⟩))
        go_ret
        exact ⟨by rw [E.out]; rfl, HB.out.trans (HB1.out.mono HB.out.size)⟩
      · cases B
        · go_enter Try.func155, Try.ntmps155
          go_wp2_with fail
          refine wp_region_bw (by kernel_rfl) (by kernel_rfl) ?_
          repeat (go_big_quiet_step ((go_at_call 212; exact Calls.bw_same (l11Kids_1 _))))
          refine wpQuiet_nil ?_
          intro w1 hb1
          obtain ⟨hc1, hf1⟩ := bcell hb1
          have HB1 := hide hb1; clear hb1
          go_wp2_with (first | (go_at_call 182; (with_reducible refine (HA.out _).mono ?_); rintro e w2 ⟨rfl, rfl⟩) | (go_at_call 182; (with_reducible refine (HBB.out _).mono ?_); rintro e w2 ⟨rfl, rfl⟩) | (go_at_call 182; (with_reducible refine (HC.out _).mono ?_); rintro e w2 ⟨rfl, rfl⟩))
          go_ret
          exact ⟨by rw [E.out]; rfl, HB.out.trans (HB1.out.mono HB.out.size)⟩
        · cases C
          · go_enter Try.func155, Try.ntmps155
            go_wp2_with fail
            refine wp_region_bw (by kernel_rfl) (by kernel_rfl) ?_
            repeat (go_big_quiet_step ((go_at_call 212; exact Calls.bw_same (l11Kids_1 _))))
            refine wpQuiet_nil ?_
            intro w1 hb1
            obtain ⟨hc1, hf1⟩ := bcell hb1
            have HB1 := hide hb1; clear hb1
            go_wp2_with (first | (go_at_call 182; (with_reducible refine (HA.out _).mono ?_); rintro e w2 ⟨rfl, rfl⟩) | (go_at_call 182; (with_reducible refine (HBB.out _).mono ?_); rintro e w2 ⟨rfl, rfl⟩) | (go_at_call 182; (with_reducible refine (HC.out _).mono ?_); rintro e w2 ⟨rfl, rfl⟩))
            go_ret
            exact ⟨by rw [E.out]; rfl, HB.out.trans (HB1.out.mono HB.out.size)⟩
          · go_enter Try.func155, Try.ntmps155
            go_wp2_with fail
            refine wp_region_bw (by kernel_rfl) (by kernel_rfl) ?_
            repeat (go_big_quiet_step ((go_at_call 212; exact Calls.bw_same (l11Kids_1 _))))
            refine wpQuiet_nil ?_
            intro w1 hb1
            obtain ⟨hc1, hf1⟩ := bcell hb1
            have HB1 := hide hb1; clear hb1
            go_wp2_with (first | (go_at_call 182; (with_reducible refine (HA.out _).mono ?_); rintro e w2 ⟨rfl, rfl⟩) | (go_at_call 182; (with_reducible refine (HBB.out _).mono ?_); rintro e w2 ⟨rfl, rfl⟩) | (go_at_call 182; (with_reducible refine (HC.out _).mono ?_); rintro e w2 ⟨rfl, rfl⟩))
            go_ret
            exact ⟨by rw [E.out]; rfl, HB.out.trans (HB1.out.mono HB.out.size)⟩
    · have gn : ((n : Int) != 0) = true := by simp; omega
      have E : Hid (R = false) := hide (by rw [E0.out, nat_eq_int]; simp [hn])
      clear hn
      go_enter Try.func155, Try.ntmps155
      go_wp2_with fail
      refine wp_region_bw (by kernel_rfl) (by kernel_rfl) ?_
      repeat (go_big_quiet_step ((go_at_call 212; exact Calls.bw_same (l11Kids_1 _))))
      refine wpQuiet_nil ?_
      intro w1 hb1
      obtain ⟨hc1, hf1⟩ := bcell hb1
      have HB1 := hide hb1; clear hb1
      go_wp2_with fail
      go_ret
      exact ⟨by rw [E.out]; rfl, HB.out.trans (HB1.out.mono HB.out.size)⟩
  by_cases h2 : o = 2
  · subst h2
    have E0 := hide (nodeR_2 t p x n)
    generalize nodeR 2 t p x n = R at *
    generalize hA : (t == 0) = A at *
    have HBB := hide (fun w' => l1In_any p 2 w')
    generalize inB p 0 2 = B at *
    have HC := hide (fun w' => l1In_any x 3 w')
    generalize inB x 0 3 = C at *
    by_cases hn : n = 0
    · subst hn
      have E : Hid (R = (A && (B && C))) := hide (by rw [E0.out]; simp)
      cases A
      · go_enter Try.func155, Try.ntmps155
        go_wp2_with fail
        refine wp_region_bw (by kernel_rfl) (by kernel_rfl) ?_
        repeat (go_big_quiet_step ((go_at_call 212; exact Calls.bw_same (l11Kids_2 _))))
        refine wpQuiet_nil ?_
        intro w1 hb1
        obtain ⟨hc1, hf1⟩ := bcell hb1
        have HB1 := hide hb1; clear hb1
        go_wp2_with (first | (go_at_call 182; (with_reducible refine (HBB.out _).mono ?_); rintro e w2 ⟨rfl, rfl⟩) | (go_at_call 182; (with_reducible refine (HC.out _).mono ?_); rintro e w2 ⟨rfl, rfl⟩))
        go_ret
        exact ⟨by rw [E.out]; rfl, HB.out.trans (HB1.out.mono HB.out.size)⟩
      · cases B
        · go_enter Try.func155, Try.ntmps155
          go_wp2_with fail
          refine wp_region_bw (by kernel_rfl) (by kernel_rfl) ?_
          repeat (go_big_quiet_step ((go_at_call 212; exact Calls.bw_same (l11Kids_2 _))))
          refine wpQuiet_nil ?_
          intro w1 hb1
          obtain ⟨hc1, hf1⟩ := bcell hb1
          have HB1 := hide hb1; clear hb1
          go_wp2_with (first | (go_at_call 182; (with_reducible refine (HBB.out _).mono ?_); rintro e w2 ⟨rfl, rfl⟩) | (go_at_call 182; (with_reducible refine (HC.out _).mono ?_); rintro e w2 ⟨rfl, rfl⟩))
          go_ret
          exact ⟨by rw [E.out]; rfl, HB.out.trans (HB1.out.mono HB.out.size)⟩
        · cases C
          · go_enter Try.func155, Try.ntmps155
            go_wp2_with fail
            refine wp_region_bw (by kernel_rfl) (by kernel_rfl) ?_
            repeat (go_big_quiet_step ((go_at_call 212; exact Calls.bw_same (l11Kids_2 _))))
            refine wpQuiet_nil ?_
            intro w1 hb1
            obtain ⟨hc1, hf1⟩ := bcell hb1
            have HB1 := hide hb1; clear hb1
            go_wp2_with (first | (go_at_call 182; (with_reducible refine (HBB.out _).mono ?_); rintro e w2 ⟨rfl, rfl⟩) | (go_at_call 182; (with_reducible refine (HC.out _).mono ?_); rintro e w2 ⟨rfl, rfl⟩))
            go_ret
            exact ⟨by rw [E.out]; rfl, HB.out.trans (HB1.out.mono HB.out.size)⟩
          · go_enter Try.func155, Try.ntmps155
            go_wp2_with fail
            refine wp_region_bw (by kernel_rfl) (by kernel_rfl) ?_
            repeat (go_big_quiet_step ((go_at_call 212; exact Calls.bw_same (l11Kids_2 _))))
            refine wpQuiet_nil ?_
            intro w1 hb1
            obtain ⟨hc1, hf1⟩ := bcell hb1
            have HB1 := hide hb1; clear hb1
            go_wp2_with (first | (go_at_call 182; (with_reducible refine (HBB.out _).mono ?_); rintro e w2 ⟨rfl, rfl⟩) | (go_at_call 182; (with_reducible refine (HC.out _).mono ?_); rintro e w2 ⟨rfl, rfl⟩))
            go_ret
            exact ⟨by rw [E.out]; rfl, HB.out.trans (HB1.out.mono HB.out.size)⟩
    · have gn : ((n : Int) != 0) = true := by simp; omega
      have E : Hid (R = false) := hide (by rw [E0.out, nat_eq_int]; simp [hn])
      clear hn
      go_enter Try.func155, Try.ntmps155
      go_wp2_with fail
      refine wp_region_bw (by kernel_rfl) (by kernel_rfl) ?_
      repeat (go_big_quiet_step ((go_at_call 212; exact Calls.bw_same (l11Kids_2 _))))
      refine wpQuiet_nil ?_
      intro w1 hb1
      obtain ⟨hc1, hf1⟩ := bcell hb1
      have HB1 := hide hb1; clear hb1
      go_wp2_with fail
      go_ret
      exact ⟨by rw [E.out]; rfl, HB.out.trans (HB1.out.mono HB.out.size)⟩
  by_cases h3 : o = 3
  · subst h3
    have E0 := hide (nodeR_3 3 t p x n (.inl rfl))
    generalize nodeR 3 t p x n = R at *
    generalize hA : (t == 0) = A at *
    generalize hB : (p == 0) = B at *
    generalize hC : (x == 0) = C at *
    by_cases hn : n = 2
    · subst hn
      have E : Hid (R = (A && (B && C))) := hide (by rw [E0.out]; simp)
      cases A
      · go_enter Try.func155, Try.ntmps155
        go_wp2_with fail
        refine wp_region_bw (by kernel_rfl) (by kernel_rfl) ?_
        repeat (go_big_quiet_step ((go_at_call 212; exact Calls.bw_same (l11Kids_3 _))))
        refine wpQuiet_nil ?_
        intro w1 hb1
        obtain ⟨hc1, hf1⟩ := bcell hb1
        have HB1 := hide hb1; clear hb1
        go_wp2_with fail
        go_ret
        exact ⟨by rw [E.out]; rfl, HB.out.trans (HB1.out.mono HB.out.size)⟩
      · cases B
        · go_enter Try.func155, Try.ntmps155
          go_wp2_with fail
          refine wp_region_bw (by kernel_rfl) (by kernel_rfl) ?_
          repeat (go_big_quiet_step ((go_at_call 212; exact Calls.bw_same (l11Kids_3 _))))
          refine wpQuiet_nil ?_
          intro w1 hb1
          obtain ⟨hc1, hf1⟩ := bcell hb1
          have HB1 := hide hb1; clear hb1
          go_wp2_with fail
          go_ret
          exact ⟨by rw [E.out]; rfl, HB.out.trans (HB1.out.mono HB.out.size)⟩
        · cases C
          · go_enter Try.func155, Try.ntmps155
            go_wp2_with fail
            refine wp_region_bw (by kernel_rfl) (by kernel_rfl) ?_
            repeat (go_big_quiet_step ((go_at_call 212; exact Calls.bw_same (l11Kids_3 _))))
            refine wpQuiet_nil ?_
            intro w1 hb1
            obtain ⟨hc1, hf1⟩ := bcell hb1
            have HB1 := hide hb1; clear hb1
            go_wp2_with fail
            go_ret
            exact ⟨by rw [E.out]; rfl, HB.out.trans (HB1.out.mono HB.out.size)⟩
          · go_enter Try.func155, Try.ntmps155
            go_wp2_with fail
            refine wp_region_bw (by kernel_rfl) (by kernel_rfl) ?_
            repeat (go_big_quiet_step ((go_at_call 212; exact Calls.bw_same (l11Kids_3 _))))
            refine wpQuiet_nil ?_
            intro w1 hb1
            obtain ⟨hc1, hf1⟩ := bcell hb1
            have HB1 := hide hb1; clear hb1
            go_wp2_with fail
            go_ret
            exact ⟨by rw [E.out]; rfl, HB.out.trans (HB1.out.mono HB.out.size)⟩
    · have gn : ((n : Int) != 2) = true := by simp; omega
      have E : Hid (R = false) := hide (by rw [E0.out, nat_eq_int]; simp [hn])
      clear hn
      go_enter Try.func155, Try.ntmps155
      go_wp2_with fail
      refine wp_region_bw (by kernel_rfl) (by kernel_rfl) ?_
      repeat (go_big_quiet_step ((go_at_call 212; exact Calls.bw_same (l11Kids_3 _))))
      refine wpQuiet_nil ?_
      intro w1 hb1
      obtain ⟨hc1, hf1⟩ := bcell hb1
      have HB1 := hide hb1; clear hb1
      go_wp2_with fail
      go_ret
      exact ⟨by rw [E.out]; rfl, HB.out.trans (HB1.out.mono HB.out.size)⟩
  by_cases h4 : o = 4
  · subst h4
    have E0 := hide (nodeR_3 4 t p x n (.inr rfl))
    generalize nodeR 4 t p x n = R at *
    generalize hA : (t == 0) = A at *
    generalize hB : (p == 0) = B at *
    generalize hC : (x == 0) = C at *
    by_cases hn : n = 2
    · subst hn
      have E : Hid (R = (A && (B && C))) := hide (by rw [E0.out]; simp)
      cases A
      · go_enter Try.func155, Try.ntmps155
        go_wp2_with fail
        refine wp_region_bw (by kernel_rfl) (by kernel_rfl) ?_
        repeat (go_big_quiet_step ((go_at_call 212; exact Calls.bw_same (l11Kids_4 _))))
        refine wpQuiet_nil ?_
        intro w1 hb1
        obtain ⟨hc1, hf1⟩ := bcell hb1
        have HB1 := hide hb1; clear hb1
        go_wp2_with fail
        go_ret
        exact ⟨by rw [E.out]; rfl, HB.out.trans (HB1.out.mono HB.out.size)⟩
      · cases B
        · go_enter Try.func155, Try.ntmps155
          go_wp2_with fail
          refine wp_region_bw (by kernel_rfl) (by kernel_rfl) ?_
          repeat (go_big_quiet_step ((go_at_call 212; exact Calls.bw_same (l11Kids_4 _))))
          refine wpQuiet_nil ?_
          intro w1 hb1
          obtain ⟨hc1, hf1⟩ := bcell hb1
          have HB1 := hide hb1; clear hb1
          go_wp2_with fail
          go_ret
          exact ⟨by rw [E.out]; rfl, HB.out.trans (HB1.out.mono HB.out.size)⟩
        · cases C
          · go_enter Try.func155, Try.ntmps155
            go_wp2_with fail
            refine wp_region_bw (by kernel_rfl) (by kernel_rfl) ?_
            repeat (go_big_quiet_step ((go_at_call 212; exact Calls.bw_same (l11Kids_4 _))))
            refine wpQuiet_nil ?_
            intro w1 hb1
            obtain ⟨hc1, hf1⟩ := bcell hb1
            have HB1 := hide hb1; clear hb1
            go_wp2_with fail
            go_ret
            exact ⟨by rw [E.out]; rfl, HB.out.trans (HB1.out.mono HB.out.size)⟩
          · go_enter Try.func155, Try.ntmps155
            go_wp2_with fail
            refine wp_region_bw (by kernel_rfl) (by kernel_rfl) ?_
            repeat (go_big_quiet_step ((go_at_call 212; exact Calls.bw_same (l11Kids_4 _))))
            refine wpQuiet_nil ?_
            intro w1 hb1
            obtain ⟨hc1, hf1⟩ := bcell hb1
            have HB1 := hide hb1; clear hb1
            go_wp2_with fail
            go_ret
            exact ⟨by rw [E.out]; rfl, HB.out.trans (HB1.out.mono HB.out.size)⟩
    · have gn : ((n : Int) != 2) = true := by simp; omega
      have E : Hid (R = false) := hide (by rw [E0.out, nat_eq_int]; simp [hn])
      clear hn
      go_enter Try.func155, Try.ntmps155
      go_wp2_with fail
      refine wp_region_bw (by kernel_rfl) (by kernel_rfl) ?_
      repeat (go_big_quiet_step ((go_at_call 212; exact Calls.bw_same (l11Kids_4 _))))
      refine wpQuiet_nil ?_
      intro w1 hb1
      obtain ⟨hc1, hf1⟩ := bcell hb1
      have HB1 := hide hb1; clear hb1
      go_wp2_with fail
      go_ret
      exact ⟨by rw [E.out]; rfl, HB.out.trans (HB1.out.mono HB.out.size)⟩
  by_cases h5 : o = 5
  · subst h5
    have E0 := hide (nodeR_5 t p x n)
    generalize nodeR 5 t p x n = R at *
    generalize hA : (t == 0) = A at *
    generalize hB : (p == 0) = B at *
    generalize hC : (x == 0) = C at *
    by_cases hn : n = 1
    · subst hn
      have E : Hid (R = (A && (B && C))) := hide (by rw [E0.out]; simp)
      cases A
      · go_enter Try.func155, Try.ntmps155
        go_wp2_with fail
        refine wp_region_bw (by kernel_rfl) (by kernel_rfl) ?_
        repeat (go_big_quiet_step ((go_at_call 212; exact Calls.bw_same (l11Kids_5 _))))
        refine wpQuiet_nil ?_
        intro w1 hb1
        obtain ⟨hc1, hf1⟩ := bcell hb1
        have HB1 := hide hb1; clear hb1
        go_wp2_with fail
        go_ret
        exact ⟨by rw [E.out]; rfl, HB.out.trans (HB1.out.mono HB.out.size)⟩
      · cases B
        · go_enter Try.func155, Try.ntmps155
          go_wp2_with fail
          refine wp_region_bw (by kernel_rfl) (by kernel_rfl) ?_
          repeat (go_big_quiet_step ((go_at_call 212; exact Calls.bw_same (l11Kids_5 _))))
          refine wpQuiet_nil ?_
          intro w1 hb1
          obtain ⟨hc1, hf1⟩ := bcell hb1
          have HB1 := hide hb1; clear hb1
          go_wp2_with fail
          go_ret
          exact ⟨by rw [E.out]; rfl, HB.out.trans (HB1.out.mono HB.out.size)⟩
        · cases C
          · go_enter Try.func155, Try.ntmps155
            go_wp2_with fail
            refine wp_region_bw (by kernel_rfl) (by kernel_rfl) ?_
            repeat (go_big_quiet_step ((go_at_call 212; exact Calls.bw_same (l11Kids_5 _))))
            refine wpQuiet_nil ?_
            intro w1 hb1
            obtain ⟨hc1, hf1⟩ := bcell hb1
            have HB1 := hide hb1; clear hb1
            go_wp2_with fail
            go_ret
            exact ⟨by rw [E.out]; rfl, HB.out.trans (HB1.out.mono HB.out.size)⟩
          · go_enter Try.func155, Try.ntmps155
            go_wp2_with fail
            refine wp_region_bw (by kernel_rfl) (by kernel_rfl) ?_
            repeat (go_big_quiet_step ((go_at_call 212; exact Calls.bw_same (l11Kids_5 _))))
            refine wpQuiet_nil ?_
            intro w1 hb1
            obtain ⟨hc1, hf1⟩ := bcell hb1
            have HB1 := hide hb1; clear hb1
            go_wp2_with fail
            go_ret
            exact ⟨by rw [E.out]; rfl, HB.out.trans (HB1.out.mono HB.out.size)⟩
    · have gn : ((n : Int) != 1) = true := by simp; omega
      have E : Hid (R = false) := hide (by rw [E0.out, nat_eq_int]; simp [hn])
      clear hn
      go_enter Try.func155, Try.ntmps155
      go_wp2_with fail
      refine wp_region_bw (by kernel_rfl) (by kernel_rfl) ?_
      repeat (go_big_quiet_step ((go_at_call 212; exact Calls.bw_same (l11Kids_5 _))))
      refine wpQuiet_nil ?_
      intro w1 hb1
      obtain ⟨hc1, hf1⟩ := bcell hb1
      have HB1 := hide hb1; clear hb1
      go_wp2_with fail
      go_ret
      exact ⟨by rw [E.out]; rfl, HB.out.trans (HB1.out.mono HB.out.size)⟩
  have E := hide (nodeR_0 o t p x n h1 h2 h3 h4 h5)
  generalize nodeR o t p x n = R at *
  have g1 : (o == 1) = false := by simp [h1]
  have g2 : (o == 2) = false := by simp [h2]
  have g3 : (o == 3) = false := by simp [h3]
  have g4 : (o == 4) = false := by simp [h4]
  have g5 : (o == 5) = false := by simp [h5]
  have gn : ((n : Int) != -1) = true := by simp
  clear h1 h2 h3 h4 h5
  go_enter Try.func155, Try.ntmps155
  go_wp2_with fail
  refine wp_region_bw (by kernel_rfl) (by kernel_rfl) ?_
  repeat (go_big_quiet_step ((go_at_call 212; exact Calls.bw_same (l11Kids_0 o _ g1 g2 g3 g4 g5))))
  refine wpQuiet_nil ?_
  intro w1 hb1
  obtain ⟨hc1, hf1⟩ := bcell hb1
  have HB1 := hide hb1; clear hb1
  go_wp2_with fail
  go_ret
  exact ⟨by rw [E.out]; rfl, HB.out.trans (HB1.out.mono HB.out.size)⟩


end Go.Proofs.Ytpnmphfdfadlcaa