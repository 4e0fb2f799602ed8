/-
  Conflicts and the list of all instructions. No condition but bounds on lengths.
-/
import Derived.Test.YtbndkefoinmmgaaP4
import Derived.Test.YtbndkefoinmmgaaF8
namespace Go.Proofs.Ytbndkefoinmmgaa
open Go.RowKit

set_option maxHeartbeats 800000 in
theorem conflict_raw (a0 a1 a2 a3 b0 b1 b2 b3 : Int) (w : World) :
    Calls Try.prog 165 #[.agg #[.int .i64 a0, .int .i64 a1, .int .i64 a2, .int .i64 a3], .agg #[.int .i64 b0, .int .i64 b1, .int .i64 b2, .int .i64 b3]] w fun e w' => e = .returned (.bool (conflictR a0 a1 b0 b1)) ∧ Below w.heap.size w w' := by
  have CR : Hid (conflictR a0 a1 b0 b1 = (a0 != 4 && b0 != 4 && a1 == b1 && (isWop a0 || isWop b0))) := hide rfl
  generalize conflictR a0 a1 b0 b1 = R at *
  have W1 := fun w' => writes_raw a0 a1 a2 a3 w'
  have W2 := fun w' => writes_raw b0 b1 b2 b3 w'
  generalize isWop a0 = x at *
  generalize isWop b0 = y at *
  have HW1 := hide W1; have HW2 := hide W2; clear W1 W2
  have hbase := ((Below.refl w.heap.size w).alloc (Nat.le_refl _) (.cells #[.int .i64 a0, .int .i64 a1, .int .i64 a2, .int .i64 a3] 59)).alloc (by simp) (.cells #[.int .i64 b0, .int .i64 b1, .int .i64 b2, .int .i64 b3] 59)
  have HB := hide hbase; clear hbase
  by_cases h1 : a0 = 4
  · have g1 : (a0 != 4) = false := by simp [h1]
    have E : Hid (R = false) := hide (by rw [CR.out, g1]; rfl)
    clear h1
    go_enter Try.func165, Try.ntmps165
    go_wp2_with fail
    go_ret
    rw [E.out]; exact ⟨rfl, HB.out⟩
  · have g1 : (a0 != 4) = true := by simp [h1]
    clear h1
    by_cases h2 : b0 = 4
    · have g2 : (b0 != 4) = false := by simp [h2]
      have E : Hid (R = false) := hide (by rw [CR.out, g1, g2]; rfl)
      clear h2
      go_enter Try.func165, Try.ntmps165
      go_wp2_with fail
      go_ret
      rw [E.out]; exact ⟨rfl, HB.out⟩
    · have g2 : (b0 != 4) = true := by simp [h2]
      clear h2
      by_cases h3 : a1 = b1
      · have g3 : (a1 == b1) = true := by simp [h3]
        have E : Hid (R = (x || y)) := hide (by rw [CR.out, g1, g2, g3]; rfl)
        clear h3
        cases x
        · go_enter Try.func165, Try.ntmps165
          go_wp2_with fail
          (with_reducible refine (HW1.out _).mono ?_); rintro e w1 ⟨rfl, hb1⟩
          obtain ⟨hc1, hf1⟩ := bcell hb1
          go_wp2_with fail
          (with_reducible refine (HW2.out _).mono ?_); rintro e w2 ⟨rfl, hb2⟩
          go_wp2_with fail
          go_ret
          rw [E.out]
          exact ⟨by simp, (HB.out.trans (hb1.mono HB.out.size)).trans (hb2.mono (by have := HB.out.size; have := hb1.size; omega))⟩
        · go_enter Try.func165, Try.ntmps165
          go_wp2_with fail
          (with_reducible refine (HW1.out _).mono ?_); rintro e w1 ⟨rfl, hb1⟩
          go_wp2_with fail
          go_ret
          rw [E.out]
          exact ⟨by simp, HB.out.trans (hb1.mono HB.out.size)⟩
      · have g3 : (a1 == b1) = false := by simp [h3]
        have E : Hid (R = false) := hide (by rw [CR.out, g1, g2, g3]; rfl)
        clear h3
        go_enter Try.func165, Try.ntmps165
        go_wp2_with fail
        go_ret
        rw [E.out]; exact ⟨rfl, HB.out⟩

end Go.Proofs.Ytbndkefoinmmgaa
