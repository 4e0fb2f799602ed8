/-
  Instructions: what is valid, what reads, what writes; the program's functions and the reference's. No condition.
-/
import Derived.Test.YtpnmphfdfadlcaaF1
namespace Go.Proofs.Ytpnmphfdfadlcaa
open Go.RowKit

def isRop (o : Int) : Bool := o == 1 || o == 5
def isWop (o : Int) : Bool := o == 2 || o == 3 || o == 5
def isR (x : Ins) : Bool := isRop x.op
def isW (x : Ins) : Bool := isWop x.op
def inB (a lo hi : Int) : Bool := decide (lo ≤ a) && decide (a ≤ hi)
def insValid (x : Ins) : Bool :=
  if x.op = 1 ∨ x.op = 3 then inB x.loc 0 2 && inB x.reg 0 2 && x.val == 0
  else if x.op = 2 then inB x.loc 0 2 && x.reg == 0 && inB x.val 0 3
  else if x.op = 4 then x.loc == 0 && x.reg == 0 && x.val == 0
  else if x.op = 5 then inB x.loc 0 2 && inB x.reg 0 2 && inB x.val 0 3
  else false

theorem within_any (x lo hi : Int) (w : World) : Calls Try.prog 86 #[.int .i64 x, .int .i64 lo, .int .i64 hi] w fun e w' => e = .returned (.bool (inB x lo hi)) ∧ w = w' := by
  unfold inB
  by_cases h : lo ≤ x
  · go_enter Try.func86, Try.ntmps86
    go_wp2
    go_ret
    exact ⟨by simp [h], rfl⟩
  · have hd : decide (lo ≤ x) = false := by simp; omega
    go_enter Try.func86, Try.ntmps86
    go_wp2
    go_ret
    exact ⟨by simp, rfl⟩

theorem l1In_any (x hi : Int) (w : World) : Calls Try.prog 182 #[.int .i64 x, .int .i64 hi] w fun e w' => e = .returned (.bool (inB x 0 hi)) ∧ w = w' := by
  unfold inB
  by_cases h : 0 ≤ x
  · go_enter Try.func182, Try.ntmps182
    go_wp2
    go_ret
    exact ⟨by simp [h], rfl⟩
  · have hd : decide (0 ≤ x) = false := by simp; omega
    go_enter Try.func182, Try.ntmps182
    go_wp2
    go_ret
    exact ⟨by simp, rfl⟩

theorem reads_any (x : Ins) (w : World) : Calls Try.prog 169 #[x.v] w fun e w' => e = .returned (.bool (isRop x.op)) ∧ Below w.heap.size w w' := by
  obtain ⟨x0, x1, x2, x3⟩ := x
  show Calls _ _ _ _ fun e w' => e = .returned (.bool (isRop x0)) ∧ _
  go_enter Try.func169, Try.ntmps169
  go_wp2
  all_goals go_ret
  all_goals refine ⟨?_, (Below.refl _ _).alloc (Nat.le_refl _) _⟩
  all_goals unfold isRop
  all_goals simp_all

theorem writes_any (x : Ins) (w : World) : Calls Try.prog 170 #[x.v] w fun e w' => e = .returned (.bool (isWop x.op)) ∧ Below w.heap.size w w' := by
  obtain ⟨x0, x1, x2, x3⟩ := x
  show Calls _ _ _ _ fun e w' => e = .returned (.bool (isWop x0)) ∧ _
  go_enter Try.func170, Try.ntmps170
  go_wp2
  all_goals go_ret
  all_goals refine ⟨?_, (Below.refl _ _).alloc (Nat.le_refl _) _⟩
  all_goals unfold isWop
  all_goals simp_all

theorem l1Reads_any (x : Ins) (w : World) : Calls Try.prog 183 #[x.v] w fun e w' => e = .returned (.bool (isRop x.op)) ∧ Below w.heap.size w w' := by
  obtain ⟨x0, x1, x2, x3⟩ := x
  show Calls _ _ _ _ fun e w' => e = .returned (.bool (isRop x0)) ∧ _
  go_enter Try.func183, Try.ntmps183
  go_wp2
  all_goals go_ret
  all_goals refine ⟨?_, (Below.refl _ _).alloc (Nat.le_refl _) _⟩
  all_goals unfold isRop
  all_goals simp_all

theorem l1Writes_any (x : Ins) (w : World) : Calls Try.prog 184 #[x.v] w fun e w' => e = .returned (.bool (isWop x.op)) ∧ Below w.heap.size w w' := by
  obtain ⟨x0, x1, x2, x3⟩ := x
  show Calls _ _ _ _ fun e w' => e = .returned (.bool (isWop x0)) ∧ _
  go_enter Try.func184, Try.ntmps184
  go_wp2
  all_goals go_ret
  all_goals refine ⟨?_, (Below.refl _ _).alloc (Nat.le_refl _) _⟩
  all_goals unfold isWop
  all_goals simp_all

theorem reads_raw (a b c d : Int) (w : World) : Calls Try.prog 169 #[.agg #[.int .i64 a, .int .i64 b, .int .i64 c, .int .i64 d]] w fun e w' => e = .returned (.bool (isRop a)) ∧ Below w.heap.size w w' := reads_any ⟨a, b, c, d⟩ w
theorem writes_raw (a b c d : Int) (w : World) : Calls Try.prog 170 #[.agg #[.int .i64 a, .int .i64 b, .int .i64 c, .int .i64 d]] w fun e w' => e = .returned (.bool (isWop a)) ∧ Below w.heap.size w w' := writes_any ⟨a, b, c, d⟩ w
theorem l1Reads_raw (a b c d : Int) (w : World) : Calls Try.prog 183 #[.agg #[.int .i64 a, .int .i64 b, .int .i64 c, .int .i64 d]] w fun e w' => e = .returned (.bool (isRop a)) ∧ Below w.heap.size w w' := l1Reads_any ⟨a, b, c, d⟩ w
theorem l1Writes_raw (a b c d : Int) (w : World) : Calls Try.prog 184 #[.agg #[.int .i64 a, .int .i64 b, .int .i64 c, .int .i64 d]] w fun e w' => e = .returned (.bool (isWop a)) ∧ Below w.heap.size w w' := l1Writes_any ⟨a, b, c, d⟩ w

theorem sInstrValid_any (x : Ins) (w : World) : Calls Try.prog 214 #[x.v] w fun e w' => e = .returned (.bool (insValid x)) ∧ Below w.heap.size w w' := by
  obtain ⟨x0, x1, x2, x3⟩ := x
  go_enter Try.func214, Try.ntmps214
  go_wp2_with (go_at_call 182; refine (l1In_any _ _ _).mono ?_; rintro e w1 ⟨rfl, rfl⟩)
  all_goals go_ret
  all_goals refine ⟨?_, (Below.refl _ _).alloc (Nat.le_refl _) _⟩
  all_goals unfold insValid
  all_goals simp_all

set_option maxHeartbeats 800000 in
theorem InstrValid_any (x : Ins) (w : World) : Calls Try.prog 87 #[x.v] w fun e w' => e = .returned (.bool (insValid x)) ∧ Below w.heap.size w w' := by
  obtain ⟨x0, x1, x2, x3⟩ := x
  by_cases h1 : x0 = 1
  · subst h1
    go_enter Try.func87, Try.ntmps87
    go_wp2_with fail
    go_region
    all_goals go_wp2_with (go_at_call 86; refine (within_any _ _ _ _).mono ?_; rintro e w1 ⟨rfl, rfl⟩)
    all_goals go_ret
    all_goals refine ⟨by unfold insValid; first | (simp_all; done) | (simp_all; decide), ?_⟩
    all_goals (repeat first | exact Below.refl _ _ | refine Below.drew ?_ | refine Below.setCell ?_ (by first | (simp; done) | (simp; omega)) _ | refine Below.alloc ?_ (by first | (simp; done) | (simp; omega)) _)
  by_cases h3 : x0 = 3
  · subst h3
    go_enter Try.func87, Try.ntmps87
    go_wp2_with fail
    go_region
    all_goals go_wp2_with (go_at_call 86; refine (within_any _ _ _ _).mono ?_; rintro e w1 ⟨rfl, rfl⟩)
    all_goals go_ret
    all_goals refine ⟨by unfold insValid; first | (simp_all; done) | (simp_all; decide), ?_⟩
    all_goals (repeat first | exact Below.refl _ _ | refine Below.drew ?_ | refine Below.setCell ?_ (by first | (simp; done) | (simp; omega)) _ | refine Below.alloc ?_ (by first | (simp; done) | (simp; omega)) _)
  by_cases h2 : x0 = 2
  · subst h2
    go_enter Try.func87, Try.ntmps87
    go_wp2_with fail
    go_region
    all_goals go_wp2_with (go_at_call 86; refine (within_any _ _ _ _).mono ?_; rintro e w1 ⟨rfl, rfl⟩)
    all_goals go_ret
    all_goals refine ⟨by unfold insValid; first | (simp_all; done) | (simp_all; decide), ?_⟩
    all_goals (repeat first | exact Below.refl _ _ | refine Below.drew ?_ | refine Below.setCell ?_ (by first | (simp; done) | (simp; omega)) _ | refine Below.alloc ?_ (by first | (simp; done) | (simp; omega)) _)
  by_cases h4 : x0 = 4
  · subst h4
    go_enter Try.func87, Try.ntmps87
    go_wp2_with (go_at_call 86; refine (within_any _ _ _ _).mono ?_; rintro e w1 ⟨rfl, rfl⟩)
    all_goals go_ret
    all_goals refine ⟨by unfold insValid; first | (simp_all; done) | (simp_all; decide), ?_⟩
    all_goals (repeat first | exact Below.refl _ _ | refine Below.drew ?_ | refine Below.setCell ?_ (by first | (simp; done) | (simp; omega)) _ | refine Below.alloc ?_ (by first | (simp; done) | (simp; omega)) _)
  by_cases h5 : x0 = 5
  · subst h5
    go_enter Try.func87, Try.ntmps87
    go_wp2_with (go_at_call 86; refine (within_any _ _ _ _).mono ?_; rintro e w1 ⟨rfl, rfl⟩)
    all_goals go_ret
    all_goals refine ⟨by unfold insValid; first | (simp_all; done) | (simp_all; decide), ?_⟩
    all_goals (repeat first | exact Below.refl _ _ | refine Below.drew ?_ | refine Below.setCell ?_ (by first | (simp; done) | (simp; omega)) _ | refine Below.alloc ?_ (by first | (simp; done) | (simp; omega)) _)
  have g1 : (x0 == 1) = false := by simpa using h1
  have g2 : (x0 == 2) = false := by simpa using h2
  have g3 : (x0 == 3) = false := by simpa using h3
  have g4 : (x0 == 4) = false := by simpa using h4
  have g5 : (x0 == 5) = false := by simpa using h5
  go_enter Try.func87, Try.ntmps87
  go_wp2_with fail
  go_ret
  refine ⟨by unfold insValid; simp_all, ?_⟩
  (repeat first | exact Below.refl _ _ | refine Below.drew ?_ | refine Below.setCell ?_ (by first | (simp; done) | (simp; omega)) _ | refine Below.alloc ?_ (by first | (simp; done) | (simp; omega)) _)

end Go.Proofs.Ytpnmphfdfadlcaa
