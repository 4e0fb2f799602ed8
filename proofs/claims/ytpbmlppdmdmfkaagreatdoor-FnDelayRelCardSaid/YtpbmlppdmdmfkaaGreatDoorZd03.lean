/-
  The reference's counts and product of a program. Condition: the program has at most 1048576 instructions.
-/
import Derived.Test.YtpbmlppdmdmfkaaGreatDoorZd01
import Derived.Test.YtpbmlppdmdmfkaaGreatDoorZd02
import Derived.Laws.BytesArg
namespace Go.Proofs.YtpbmlppdmdmfkaaGreatDoor

def inR (x hi : Int) : Bool := decide (0 ≤ x) && decide (x ≤ hi)
/-- The fields of a node are right; it has n parts. -/
def nodeR (o t p x : Int) (n : Nat) : Bool :=
  if o = 1 then inR t 2 && inR p 2 && inR x 3 && decide (n = 0)
  else if o = 2 then decide (t = 0) && inR p 2 && inR x 3 && decide (n = 0)
  else if o = 3 ∨ o = 4 then decide (t = 0) && decide (p = 0) && decide (x = 0) && decide (n = 2)
  else decide (o = 5) && decide (t = 0) && decide (p = 0) && decide (x = 0) && decide (n = 1)
def nodeB (c : Cd) : Bool := nodeR c.op c.th c.pl c.val c.kids.length
def shapeF : Nat → Cd → Bool
  | 0, _ => false
  | d + 1, c => nodeB c && c.kids.all (shapeF d)
def nodes (c : Cd) : Nat := descs c.kids + 1
def validC (c : Cd) : Bool := shapeF 10 c && decide (nodes c ≤ 30)

theorem shapeF_succ (d : Nat) (c : Cd) : shapeF (d + 1) c = true ↔ nodeB c = true ∧ ∀ k ∈ c.kids, shapeF d k = true := by
  simp [shapeF]

theorem nodeB_kids {c : Cd} (h : nodeB c = true) : c.kids.length ≤ 2 := by
  unfold nodeB nodeR at h
  split at h
  · simp only [Bool.and_eq_true, decide_eq_true_eq] at h; omega
  · split at h
    · simp only [Bool.and_eq_true, decide_eq_true_eq] at h; omega
    · split at h
      · simp only [Bool.and_eq_true, decide_eq_true_eq] at h; omega
      · simp only [Bool.and_eq_true, decide_eq_true_eq] at h; omega

/-- What the size of a condition says: r is its number of nodes, or more than 30 where it is not right. -/
structure SzOK (d : Nat) (c : Cd) (r : Int) : Prop where
  low : 1 ≤ r
  high : r ≤ 31 + 30 * d
  iff : r ≤ 30 ↔ (shapeF d c = true ∧ nodes c ≤ 30)
  eq : r ≤ 30 → r = nodes c

theorem SzOK.bad0 (c : Cd) : SzOK 0 c 31 := ⟨by omega, by omega, by simp [shapeF], by omega⟩
theorem SzOK.bad {d : Nat} {c : Cd} (h : nodeB c = false) : SzOK (d + 1) c 31 := ⟨by omega, by omega, by
  constructor
  · intro h; omega
  · rintro ⟨h1, _⟩
    rw [shapeF_succ, h] at h1
    simp at h1, by omega⟩

/-- So many parts are counted and right. -/
structure SzTo (d : Nat) (ks : List Cd) (k : Nat) (r : Int) : Prop where
  eq : r = 1 + descs (ks.take k)
  le : r ≤ 30
  all : ∀ c ∈ ks.take k, shapeF d c = true

theorem SzTo.zero (d : Nat) (ks : List Cd) : SzTo d ks 0 1 := ⟨by simp [descs], by omega, by simp⟩
theorem SzTo.low {d : Nat} {ks : List Cd} {k : Nat} {r : Int} (h : SzTo d ks k r) : 1 ≤ r := by have := h.eq; omega

theorem SzTo.next {d : Nat} {ks : List Cd} {k : Nat} {r r' : Int} {x : Cd} (h : SzTo d ks k r) (hx : ks[k]? = some x) (hr : SzOK d x r') (hle : r + r' ≤ 30) : SzTo d ks (k + 1) (r + r') := by
  have h1 := h.low
  have h2 := hr.eq (by omega)
  obtain ⟨h3, h4⟩ := hr.iff.1 (by omega)
  refine ⟨?_, hle, ?_⟩
  · rw [descs_take_succ hx, h.eq, h2]; unfold nodes; omega
  · intro c hc
    rw [List.take_add_one, hx] at hc
    simp at hc
    rcases hc with hc | rfl
    · exact h.all c hc
    · exact h3

theorem SzTo.more {d : Nat} {c : Cd} {k : Nat} {r r' : Int} {x : Cd} (h : SzTo d c.kids k r) (hx : c.kids[k]? = some x) (hr : SzOK d x r') (hgt : ¬ r + r' ≤ 30) : SzOK (d + 1) c (r + r') := by
  have h1 := h.low
  have h0 := hr.low
  have h5 := hr.high
  refine ⟨by omega, by have := h.le; omega, ⟨fun h => absurd h hgt, ?_⟩, fun h => absurd h hgt⟩
  rintro ⟨hs, hn⟩
  exfalso
  apply hgt
  rw [shapeF_succ] at hs
  have hm := List.mem_of_getElem? hx
  have hk := descs_kid hx
  have h6 := hr.iff.2 ⟨hs.2 x hm, by unfold nodes at hn ⊢; omega⟩
  have h7 := hr.eq h6
  rw [h.eq, h7]
  unfold nodes at hn ⊢; omega

theorem SzTo.done {d : Nat} {c : Cd} {k : Nat} {r : Int} (h : SzTo d c.kids k r) (hn : nodeB c = true) (hk : c.kids.length ≤ k) : SzOK (d + 1) c r := by
  have h1 := h.low
  have h2 := h.le
  have h3 := h.eq
  have h4 := h.all
  rw [List.take_of_length_le hk] at h3 h4
  exact ⟨h1, by omega, ⟨fun _ => ⟨(shapeF_succ d c).2 ⟨hn, h4⟩, by unfold nodes; omega⟩, fun _ => h2⟩, fun _ => by unfold nodes; omega⟩

theorem SzOK.valid {c : Cd} {r : Int} (h : SzOK 10 c r) : decide (r ≤ 30) = validC c := by
  unfold validC
  rw [Bool.eq_iff_iff]
  simp [h.iff]

/-- What a count up to a number says. -/
structure CnOK (c : Cd) (m r : Int) : Prop where
  low : 1 ≤ r
  high : r ≤ nodes c
  eq : r ≤ m → r = nodes c

/-- So many parts are counted. -/
structure CnTo (ks : List Cd) (m : Int) (k : Nat) (r : Int) : Prop where
  low : 1 ≤ r
  high : r ≤ 1 + descs (ks.take k)
  eq : r ≤ m → r = 1 + descs (ks.take k)

theorem CnTo.zero (ks : List Cd) (m : Int) : CnTo ks m 0 1 := ⟨by omega, by omega, fun _ => by simp [descs]⟩
theorem CnTo.next {ks : List Cd} {m : Int} {k : Nat} {r r' : Int} {x : Cd} (h : CnTo ks m k r) (hx : ks[k]? = some x) (hm : r ≤ m) (hr : CnOK x (m - r) r') : CnTo ks m (k + 1) (r + r') := by
  have h1 := h.low; have h2 := h.high; have h3 := h.eq hm
  have h4 := hr.low; have h5 := hr.high
  unfold nodes at h5
  refine ⟨by omega, by rw [descs_take_succ hx]; omega, fun hle => ?_⟩
  have := hr.eq (by omega)
  unfold nodes at this
  rw [descs_take_succ hx]; omega

theorem CnTo.done {c : Cd} {m : Int} {k : Nat} {r : Int} (h : CnTo c.kids m k r) (hk : c.kids.length ≤ k ∨ ¬ r ≤ m) : CnOK c m r := by
  have h1 := h.low; have h2 := h.high; have h3 := descs_take_le c.kids k
  refine ⟨h1, by unfold nodes; omega, fun hm => ?_⟩
  rcases hk with hk | hk
  · have := h.eq hm
    rw [List.take_of_length_le hk] at this
    unfold nodes; omega
  · exact absurd hm hk

theorem CnOK.le {c : Cd} {r : Int} (h : CnOK c 30 r) : decide (r ≤ 30) = decide (nodes c ≤ 30) := by
  have h1 := h.high
  rw [Bool.eq_iff_iff]
  simp only [decide_eq_true_eq]
  constructor
  · intro hr; have := h.eq hr; omega
  · intro hn; omega

end Go.Proofs.YtpbmlppdmdmfkaaGreatDoor

namespace Go.Proofs.YtpbmlppdmdmfkaaGreatDoor
open Go.RowKit

def isRop (o : Int) : Bool := o == 1 || o == 5
def isWop (o : Int) : Bool := o == 2 || o == 3 || o == 5
def isR (x : Ins) : Bool := isRop x.op
def isW (x : Ins) : Bool := isWop x.op
def inB (a lo hi : Int) : Bool := decide (lo ≤ a) && decide (a ≤ hi)
def insValid (x : Ins) : Bool :=
  if x.op = 1 ∨ x.op = 3 then inB x.loc 0 2 && inB x.reg 0 2 && x.val == 0
  else if x.op = 2 then inB x.loc 0 2 && x.reg == 0 && inB x.val 0 3
  else if x.op = 4 then x.loc == 0 && x.reg == 0 && x.val == 0
  else if x.op = 5 then inB x.loc 0 2 && inB x.reg 0 2 && inB x.val 0 3
  else false

theorem within_any (x lo hi : Int) (w : World) : Calls Tryz.prog 64 #[.int .i64 x, .int .i64 lo, .int .i64 hi] w fun e w' => e = .returned (.bool (inB x lo hi)) ∧ w = w' := by
  unfold inB
  by_cases h : lo ≤ x
  · go_enter Tryz.func64, Tryz.ntmps64
    go_wp2
    go_ret
    exact ⟨by simp [h], rfl⟩
  · have hd : decide (lo ≤ x) = false := by simp; omega
    go_enter Tryz.func64, Tryz.ntmps64
    go_wp2
    go_ret
    exact ⟨by simp, rfl⟩

theorem l1In_any (x hi : Int) (w : World) : Calls Tryz.prog 177 #[.int .i64 x, .int .i64 hi] w fun e w' => e = .returned (.bool (inB x 0 hi)) ∧ w = w' := by
  unfold inB
  by_cases h : 0 ≤ x
  · go_enter Tryz.func177, Tryz.ntmps177
    go_wp2
    go_ret
    exact ⟨by simp [h], rfl⟩
  · have hd : decide (0 ≤ x) = false := by simp; omega
    go_enter Tryz.func177, Tryz.ntmps177
    go_wp2
    go_ret
    exact ⟨by simp, rfl⟩

theorem reads_any (x : Ins) (w : World) : Calls Tryz.prog 150 #[x.v] w fun e w' => e = .returned (.bool (isRop x.op)) ∧ Below w.heap.size w w' := by
  obtain ⟨x0, x1, x2, x3⟩ := x
  show Calls _ _ _ _ fun e w' => e = .returned (.bool (isRop x0)) ∧ _
  go_enter Tryz.func150, Tryz.ntmps150
  go_wp2
  all_goals go_ret
  all_goals refine ⟨?_, (Below.refl _ _).alloc (Nat.le_refl _) _⟩
  all_goals unfold isRop
  all_goals simp_all

theorem writes_any (x : Ins) (w : World) : Calls Tryz.prog 151 #[x.v] w fun e w' => e = .returned (.bool (isWop x.op)) ∧ Below w.heap.size w w' := by
  obtain ⟨x0, x1, x2, x3⟩ := x
  show Calls _ _ _ _ fun e w' => e = .returned (.bool (isWop x0)) ∧ _
  go_enter Tryz.func151, Tryz.ntmps151
  go_wp2
  all_goals go_ret
  all_goals refine ⟨?_, (Below.refl _ _).alloc (Nat.le_refl _) _⟩
  all_goals unfold isWop
  all_goals simp_all

theorem l1Reads_any (x : Ins) (w : World) : Calls Tryz.prog 240 #[x.v] w fun e w' => e = .returned (.bool (isRop x.op)) ∧ Below w.heap.size w w' := by
  obtain ⟨x0, x1, x2, x3⟩ := x
  show Calls _ _ _ _ fun e w' => e = .returned (.bool (isRop x0)) ∧ _
  go_enter Tryz.func240, Tryz.ntmps240
  go_wp2
  all_goals go_ret
  all_goals refine ⟨?_, (Below.refl _ _).alloc (Nat.le_refl _) _⟩
  all_goals unfold isRop
  all_goals simp_all

theorem l1Writes_any (x : Ins) (w : World) : Calls Tryz.prog 241 #[x.v] w fun e w' => e = .returned (.bool (isWop x.op)) ∧ Below w.heap.size w w' := by
  obtain ⟨x0, x1, x2, x3⟩ := x
  show Calls _ _ _ _ fun e w' => e = .returned (.bool (isWop x0)) ∧ _
  go_enter Tryz.func241, Tryz.ntmps241
  go_wp2
  all_goals go_ret
  all_goals refine ⟨?_, (Below.refl _ _).alloc (Nat.le_refl _) _⟩
  all_goals unfold isWop
  all_goals simp_all

theorem reads_raw (a b c d : Int) (w : World) : Calls Tryz.prog 150 #[.agg #[.int .i64 a, .int .i64 b, .int .i64 c, .int .i64 d]] w fun e w' => e = .returned (.bool (isRop a)) ∧ Below w.heap.size w w' := reads_any ⟨a, b, c, d⟩ w
theorem writes_raw (a b c d : Int) (w : World) : Calls Tryz.prog 151 #[.agg #[.int .i64 a, .int .i64 b, .int .i64 c, .int .i64 d]] w fun e w' => e = .returned (.bool (isWop a)) ∧ Below w.heap.size w w' := writes_any ⟨a, b, c, d⟩ w
theorem l1Reads_raw (a b c d : Int) (w : World) : Calls Tryz.prog 240 #[.agg #[.int .i64 a, .int .i64 b, .int .i64 c, .int .i64 d]] w fun e w' => e = .returned (.bool (isRop a)) ∧ Below w.heap.size w w' := l1Reads_any ⟨a, b, c, d⟩ w
theorem l1Writes_raw (a b c d : Int) (w : World) : Calls Tryz.prog 241 #[.agg #[.int .i64 a, .int .i64 b, .int .i64 c, .int .i64 d]] w fun e w' => e = .returned (.bool (isWop a)) ∧ Below w.heap.size w w' := l1Writes_any ⟨a, b, c, d⟩ w

theorem sInstrValid_any (x : Ins) (w : World) : Calls Tryz.prog 219 #[x.v] w fun e w' => e = .returned (.bool (insValid x)) ∧ Below w.heap.size w w' := by
  obtain ⟨x0, x1, x2, x3⟩ := x
  go_enter Tryz.func219, Tryz.ntmps219
  go_wp2_with (go_at_call 177; refine (l1In_any _ _ _).mono ?_; rintro e w1 ⟨rfl, rfl⟩)
  all_goals go_ret
  all_goals refine ⟨?_, (Below.refl _ _).alloc (Nat.le_refl _) _⟩
  all_goals unfold insValid
  all_goals simp_all

set_option maxHeartbeats 800000 in
theorem InstrValid_any (x : Ins) (w : World) : Calls Tryz.prog 65 #[x.v] w fun e w' => e = .returned (.bool (insValid x)) ∧ Below w.heap.size w w' := by
  obtain ⟨x0, x1, x2, x3⟩ := x
  by_cases h1 : x0 = 1
  · subst h1
    go_enter Tryz.func65, Tryz.ntmps65
    go_wp2_with fail
    go_region
    all_goals go_wp2_with (go_at_call 64; refine (within_any _ _ _ _).mono ?_; rintro e w1 ⟨rfl, rfl⟩)
    all_goals go_ret
    all_goals refine ⟨by unfold insValid; first | (simp_all; done) | (simp_all; decide), ?_⟩
    all_goals (repeat first | exact Below.refl _ _ | refine Below.drew ?_ | refine Below.setCell ?_ (by first | (simp; done) | (simp; omega)) _ | refine Below.alloc ?_ (by first | (simp; done) | (simp; omega)) _)
  by_cases h3 : x0 = 3
  · subst h3
    go_enter Tryz.func65, Tryz.ntmps65
    go_wp2_with fail
    go_region
    all_goals go_wp2_with (go_at_call 64; refine (within_any _ _ _ _).mono ?_; rintro e w1 ⟨rfl, rfl⟩)
    all_goals go_ret
    all_goals refine ⟨by unfold insValid; first | (simp_all; done) | (simp_all; decide), ?_⟩
    all_goals (repeat first | exact Below.refl _ _ | refine Below.drew ?_ | refine Below.setCell ?_ (by first | (simp; done) | (simp; omega)) _ | refine Below.alloc ?_ (by first | (simp; done) | (simp; omega)) _)
  by_cases h2 : x0 = 2
  · subst h2
    go_enter Tryz.func65, Tryz.ntmps65
    go_wp2_with fail
    go_region
    all_goals go_wp2_with (go_at_call 64; refine (within_any _ _ _ _).mono ?_; rintro e w1 ⟨rfl, rfl⟩)
    all_goals go_ret
    all_goals refine ⟨by unfold insValid; first | (simp_all; done) | (simp_all; decide), ?_⟩
    all_goals (repeat first | exact Below.refl _ _ | refine Below.drew ?_ | refine Below.setCell ?_ (by first | (simp; done) | (simp; omega)) _ | refine Below.alloc ?_ (by first | (simp; done) | (simp; omega)) _)
  by_cases h4 : x0 = 4
  · subst h4
    go_enter Tryz.func65, Tryz.ntmps65
    go_wp2_with (go_at_call 64; refine (within_any _ _ _ _).mono ?_; rintro e w1 ⟨rfl, rfl⟩)
    all_goals go_ret
    all_goals refine ⟨by unfold insValid; first | (simp_all; done) | (simp_all; decide), ?_⟩
    all_goals (repeat first | exact Below.refl _ _ | refine Below.drew ?_ | refine Below.setCell ?_ (by first | (simp; done) | (simp; omega)) _ | refine Below.alloc ?_ (by first | (simp; done) | (simp; omega)) _)
  by_cases h5 : x0 = 5
  · subst h5
    go_enter Tryz.func65, Tryz.ntmps65
    go_wp2_with (go_at_call 64; refine (within_any _ _ _ _).mono ?_; rintro e w1 ⟨rfl, rfl⟩)
    all_goals go_ret
    all_goals refine ⟨by unfold insValid; first | (simp_all; done) | (simp_all; decide), ?_⟩
    all_goals (repeat first | exact Below.refl _ _ | refine Below.drew ?_ | refine Below.setCell ?_ (by first | (simp; done) | (simp; omega)) _ | refine Below.alloc ?_ (by first | (simp; done) | (simp; omega)) _)
  have g1 : (x0 == 1) = false := by simpa using h1
  have g2 : (x0 == 2) = false := by simpa using h2
  have g3 : (x0 == 3) = false := by simpa using h3
  have g4 : (x0 == 4) = false := by simpa using h4
  have g5 : (x0 == 5) = false := by simpa using h5
  go_enter Tryz.func65, Tryz.ntmps65
  go_wp2_with fail
  go_ret
  refine ⟨by unfold insValid; simp_all, ?_⟩
  (repeat first | exact Below.refl _ _ | refine Below.drew ?_ | refine Below.setCell ?_ (by first | (simp; done) | (simp; omega)) _ | refine Below.alloc ?_ (by first | (simp; done) | (simp; omega)) _)

end Go.Proofs.YtpbmlppdmdmfkaaGreatDoor

namespace Go.Proofs.YtpbmlppdmdmfkaaGreatDoor
open Go.RowKit

theorem nat_eq_int (n k : Nat) : ((n : Int) == (k : Int)) = decide (n = k) := by rw [Bool.eq_iff_iff]; simp only [beq_iff_eq, decide_eq_true_eq]; omega
theorem nodeR_1 (t p x : Int) (n : Nat) : nodeR 1 t p x n = (inB t 0 2 && (inB p 0 2 && (inB x 0 3 && ((n : Int) == ((0 : Nat) : Int))))) := by
  rw [nat_eq_int]; simp [nodeR, inR, inB, Bool.and_assoc]
theorem nodeR_2 (t p x : Int) (n : Nat) : nodeR 2 t p x n = ((t == 0) && (inB p 0 2 && (inB x 0 3 && ((n : Int) == ((0 : Nat) : Int))))) := by
  rw [nat_eq_int]; simp [nodeR, inR, inB, Bool.and_assoc]; rw [show (t == 0) = decide (t = 0) from rfl]
theorem nodeR_3 (o t p x : Int) (n : Nat) (h : o = 3 ∨ o = 4) : nodeR o t p x n = ((t == 0) && ((p == 0) && ((x == 0) && ((n : Int) == ((2 : Nat) : Int))))) := by
  rw [nat_eq_int]
  rcases h with rfl | rfl <;> simp [nodeR, Bool.and_assoc] <;> rfl
theorem nodeR_5 (t p x : Int) (n : Nat) : nodeR 5 t p x n = ((t == 0) && ((p == 0) && ((x == 0) && ((n : Int) == ((1 : Nat) : Int))))) := by
  rw [nat_eq_int]; simp [nodeR, Bool.and_assoc]; rfl
theorem nodeR_0 (o t p x : Int) (n : Nat) (h1 : o ≠ 1) (h2 : o ≠ 2) (h3 : o ≠ 3) (h4 : o ≠ 4) (h5 : o ≠ 5) : nodeR o t p x n = false := by
  simp [nodeR, h1, h2, h3, h4, h5]

end Go.Proofs.YtpbmlppdmdmfkaaGreatDoor
namespace Go.Proofs.YtpbmlppdmdmfkaaGreatDoor
open Go.RowKit

/-- What a size hands back. -/
def RetSz (w : World) (d : Nat) (c : Cd) (e : Ending) (w' : World) : Prop := ∃ r : Int, e = .returned (.int .i64 r) ∧ SzOK d c r ∧ Below w.heap.size w w'

/-- What a count hands back. -/
def RetCn (w : World) (c : Cd) (m : Int) (e : Ending) (w' : World) : Prop := ∃ r : Int, e = .returned (.int .i64 r) ∧ CnOK c m r ∧ Below w.heap.size w w'

end Go.Proofs.YtpbmlppdmdmfkaaGreatDoor

namespace Go.Proofs.YtpbmlppdmdmfkaaGreatDoor
open Go.RowKit

theorem one_byte (u : World) (B : Int) : (convert 22 9 (.slice (some ⟨u.heap.size, 0, none⟩) 1 1)).run Tryz.prog (u.alloc (.cells #[.int .u8 B] 5)) = .ok (.string (strOfNums [B])) (u.alloc (.cells #[.int .u8 B] 5)) :=
  run_convert_bytes_arg (u.alloc (.cells #[.int .u8 B] 5)) 22 5 Tryz.underlying22 Tryz.underlying5 u.heap.size 0 1 1 [B] rfl (fun i hi => by
    obtain rfl : i = 0 := by omega
    simp [go_sem]) 9 Tryz.underlying9

theorem strN_app (a b : List Int) : strOfNums a ++ strOfNums b = strOfNums (a ++ b) := by
  apply ByteArray.ext
  simp [strOfNums]
theorem strN_nil : strOfNums [] = ⟨#[]⟩ := by
  apply ByteArray.ext
  simp [strOfNums]
theorem strN_empty (a : List Int) : strOfNums a ++ ⟨#[]⟩ = strOfNums a := by rw [← strN_nil, strN_app, List.append_nil]

theorem l17Dec_dig (x : Int) (w : World) (h0 : 0 ≤ x) (h1 : x ≤ 9) :
    Calls Tryz.prog 319 #[.int .i64 x] w fun e w' => e = .returned (.string (strOfNums [48 + x])) ∧ Below w.heap.size w w' := by
  have kc := one_byte
  go_enter Tryz.func319, Tryz.ntmps319
  go_wp2_with fail
  go_loopw [0, 3] (fun q i wr => q = .int .i64 x ∧ i = .string ⟨#[]⟩ ∧ wr = w) (fun _ i _ => 0)
  case atStart => exact ⟨rfl, rfl, rfl⟩
  case round =>
    obtain ⟨rfl, rfl, rfl⟩ := hrel
    go_wp2_with fail
    go_ret
    exact ⟨by rw [← strN_empty]; rfl, (Below.refl _ _).alloc (Nat.le_refl _) _⟩

theorem l1Letter_any (b x : Int) (w : World) (h0 : 0 ≤ x) (h1 : x ≤ 9) (h2 : 0 ≤ b) (h3 : b ≤ 200) :
    Calls Tryz.prog 318 #[.int .u8 b, .int .i64 x] w fun e w' => e = .returned (.string (strOfNums [b + x])) ∧ Below w.heap.size w w' := by
  have kc := one_byte
  go_enter Tryz.func318, Tryz.ntmps318
  go_wp2_with fail
  go_ret
  exact ⟨rfl, (Below.refl _ _).alloc (Nat.le_refl _) _⟩

def Cd.kid (c : Cd) (i : Nat) : Cd := c.kids.getD i (.mk 0 0 0 0 [])

/-- The text of a valid condition, byte by byte. -/
def textF : Nat → Cd → List Int
  | 0, _ => []
  | d + 1, c =>
    if c.op = 1 then [48 + c.th] ++ [97 + c.pl] ++ [61] ++ [48 + c.val]
    else if c.op = 2 then [120 + c.pl] ++ [61] ++ [48 + c.val]
    else if c.op = 3 then [40] ++ textF d (c.kid 0) ++ [38] ++ textF d (c.kid 1) ++ [41]
    else if c.op = 4 then [40] ++ textF d (c.kid 0) ++ [124] ++ textF d (c.kid 1) ++ [41]
    else [126] ++ textF d (c.kid 0)

theorem textF_len : ∀ (d : Nat) (c : Cd), (textF d c).length + 4 ≤ 4 * 2 ^ d := by
  intro d
  induction d with
  | zero => intro c; simp [textF]
  | succ d ih =>
    intro c
    have h0 := ih (c.kid 0)
    have h1 := ih (c.kid 1)
    have h2 : 1 ≤ 2 ^ d := Nat.one_le_two_pow
    rw [Nat.pow_succ]
    unfold textF
    split
    · simp; omega
    · split
      · simp; omega
      · split
        · simp; omega
        · split
          · simp; omega
          · simp; omega

theorem dig_cut (x : Int) (h0 : 0 ≤ x) (h1 : x ≤ 3) : (⟨#[48, 49, 50, 51, 52, 53, 54, 55, 56, 57]⟩ : ByteArray).extract x.toNat (x + 1).toNat = strOfNums [48 + x] := by
  have : x = 0 ∨ x = 1 ∨ x = 2 ∨ x = 3 := by omega
  rcases this with rfl | rfl | rfl | rfl <;> rfl
theorem reg_cut (x : Int) (h0 : 0 ≤ x) (h1 : x ≤ 2) : (⟨#[97, 98, 99]⟩ : ByteArray).extract x.toNat (x + 1).toNat = strOfNums [97 + x] := by
  have : x = 0 ∨ x = 1 ∨ x = 2 := by omega
  rcases this with rfl | rfl | rfl <;> rfl
theorem loc_cut (x : Int) (h0 : 0 ≤ x) (h1 : x ≤ 2) : (⟨#[120, 121, 122]⟩ : ByteArray).extract x.toNat (x + 1).toNat = strOfNums [120 + x] := by
  have : x = 0 ∨ x = 1 ∨ x = 2 := by omega
  rcases this with rfl | rfl | rfl <;> rfl

theorem nodeR_cases {o t p x : Int} {n : Nat} (h : nodeR o t p x n = true) :
    (o = 1 ∧ 0 ≤ t ∧ t ≤ 2 ∧ 0 ≤ p ∧ p ≤ 2 ∧ 0 ≤ x ∧ x ≤ 3 ∧ n = 0) ∨ (o = 2 ∧ 0 ≤ p ∧ p ≤ 2 ∧ 0 ≤ x ∧ x ≤ 3 ∧ n = 0 ∧ t = 0) ∨ (o = 3 ∧ n = 2 ∧ t = 0 ∧ p = 0 ∧ x = 0) ∨ (o = 4 ∧ n = 2 ∧ t = 0 ∧ p = 0 ∧ x = 0) ∨ (o = 5 ∧ n = 1 ∧ t = 0 ∧ p = 0 ∧ x = 0) := by
  unfold nodeR inR at h
  split at h
  · simp only [Bool.and_eq_true, decide_eq_true_eq] at h; omega
  · split at h
    · simp only [Bool.and_eq_true, decide_eq_true_eq] at h; omega
    · split at h
      · simp only [Bool.and_eq_true, decide_eq_true_eq] at h; omega
      · simp only [Bool.and_eq_true, decide_eq_true_eq] at h; omega

theorem kid_of {o t p x : Int} {ks : List Cd} {i : Nat} {k : Cd} (h : ks[i]? = some k) : (Cd.mk o t p x ks).kid i = k := by
  unfold Cd.kid Cd.kids
  rw [List.getD_eq_getElem?_getD, h]; rfl

/-- So does a function write conditions out: fn is its number. -/
def TextsAt (fn : FuncId) (d : Nat) : Prop := ∀ (o t p x : Int) (ks : List Cd) (a : Option Addr) (n c : Nat) (w : World), RepK 0 w ⟨a, n, c⟩ ks → shapeF d (.mk o t p x ks) = true →
  Calls Tryz.prog fn #[.agg #[.int .i64 o, .int .i64 t, .int .i64 p, .int .i64 x, .slice a n c]] w fun e w' => e = .returned (.string (strOfNums (textF d (.mk o t p x ks)))) ∧ Below w.heap.size w w'

theorem size_strN (l : List Int) : (strOfNums l).size = l.length := by simp [strOfNums, ByteArray.size]

end Go.Proofs.YtpbmlppdmdmfkaaGreatDoor

namespace Go.Proofs.YtpbmlppdmdmfkaaGreatDoor

def fR (loc : Int) (x : Ins) : Bool := x.loc == loc && isRop x.op
def fW (loc : Int) (x : Ins) : Bool := x.loc == loc && isWop x.op
theorem fR_yes {loc : Int} {x : Ins} (h : x.loc = loc) : fR loc x = isRop x.op := by simp [fR, h]
theorem fR_no {loc : Int} {x : Ins} (h : x.loc ≠ loc) : fR loc x = false := by simp [fR, h]
theorem fW_yes {loc : Int} {x : Ins} (h : x.loc = loc) : fW loc x = isWop x.op := by simp [fW, h]
theorem fW_no {loc : Int} {x : Ins} (h : x.loc ≠ loc) : fW loc x = false := by simp [fW, h]

def cnt (f : Ins → Bool) (p : List (List Ins)) : Nat := p.flatten.countP f

theorem cnt_take_succ (f : Ins → Bool) {p : List (List Ins)} {i : Nat} {r : List Ins} (h : p[i]? = some r) : cnt f (p.take (i + 1)) = cnt f (p.take i) + r.countP f := by
  simp [cnt, List.take_add_one, h, List.countP_append]

theorem countP_take_succ (f : Ins → Bool) {r : List Ins} {k : Nat} {x : Ins} (h : r[k]? = some x) : (r.take (k + 1)).countP f = (r.take k).countP f + if f x = true then 1 else 0 := by
  simp [List.take_add_one, h, List.countP_append, List.countP_cons]

theorem cnt_le_flatten (f : Ins → Bool) (p : List (List Ins)) : cnt f p ≤ p.flatten.length := List.countP_le_length

theorem flatten_take_le (p : List (List Ins)) (i : Nat) : (p.take i).flatten.length ≤ p.flatten.length := by
  have h : p.flatten = (p.take i).flatten ++ (p.drop i).flatten := by rw [← List.flatten_append, List.take_append_drop]
  rw [h, List.length_append]; omega

theorem cnt_take_le (f : Ins → Bool) (p : List (List Ins)) (i : Nat) : cnt f (p.take i) ≤ p.flatten.length := Nat.le_trans (cnt_le_flatten f _) (flatten_take_le p i)

theorem row_le_flatten {p : List (List Ins)} {i : Nat} {r : List Ins} (h : p[i]? = some r) : (p.take i).flatten.length + r.length ≤ p.flatten.length := by
  have h1 := flatten_take_le p (i + 1)
  simpa [List.take_add_one, h] using h1

def fact : Nat → Nat
  | 0 => 1
  | n + 1 => fact n * (n + 1)

theorem fact_pos (n : Nat) : 1 ≤ fact n := by
  induction n with
  | zero => exact Nat.le_refl _
  | succ n ih => exact Nat.le_trans ih (Nat.le_mul_of_pos_right _ (Nat.succ_pos _))

def pl (p : List (List Ins)) (loc : Nat) : Nat := (cnt (fW loc) p + 1) ^ cnt (fR loc) p * fact (cnt (fW loc) p)
def prodTo (p : List (List Ins)) : Nat → Nat
  | 0 => 1
  | l + 1 => prodTo p l * pl p l
def prodP (p : List (List Ins)) : Nat := prodTo p 3

/-- A number, cut at one more than the greatest that counts. -/
def cap (n : Nat) : Nat := min n 3001

theorem cap_le (n : Nat) : cap n ≤ 3001 := Nat.min_le_right _ _
theorem cap_mul (q n : Nat) (h : 1 ≤ n) : cap (cap q * n) = cap (q * n) := by
  unfold cap
  by_cases hq : q ≤ 3001
  · rw [Nat.min_eq_left hq]
  · have h1 : 3001 ≤ 3001 * n := Nat.le_mul_of_pos_right _ h
    have h2 : q ≤ q * n := Nat.le_mul_of_pos_right _ h
    rw [Nat.min_eq_right (show 3001 ≤ q by omega), Nat.min_eq_right h1, Nat.min_eq_right (by omega)]

theorem cap_mul' {a q : Nat} (hc : cap a = cap q) (n : Nat) (h : 1 ≤ n) : cap (a * n) = cap (q * n) := by
  rw [← cap_mul a n h, hc, cap_mul q n h]

/-- Past the limit further factors change nothing. -/
theorem cap_past {a q : Nat} (hc : cap a = cap q) (ha : 3000 < a) (n : Nat) (h : 1 ≤ n) : cap a = cap (q * n) := by
  have h1 : cap a = 3001 := by unfold cap; omega
  have h2 : 3001 ≤ q := by rw [h1] at hc; unfold cap at hc; omega
  have h3 : q ≤ q * n := Nat.le_mul_of_pos_right _ h
  rw [h1]; unfold cap; omega

theorem pow_pos' (a n : Nat) : 1 ≤ (a + 1) ^ n := Nat.pos_of_ne_zero (by simp)

theorem fact_mul {s n : Nat} (h : s ≤ n) : ∃ m, 1 ≤ m ∧ fact n = fact s * m := by
  induction n with
  | zero => exact ⟨1, Nat.le_refl _, by rw [show s = 0 by omega, Nat.mul_one]⟩
  | succ n ih =>
    by_cases e : s = n + 1
    · exact ⟨1, Nat.le_refl _, by rw [e, Nat.mul_one]⟩
    · obtain ⟨m, h1, h2⟩ := ih (by omega)
      exact ⟨m * (n + 1), Nat.mul_pos h1 (Nat.succ_pos _), by rw [fact, h2, Nat.mul_assoc]⟩

theorem pow_mul_rest {a t r : Nat} (h : t ≤ r) : ∃ m, 1 ≤ m ∧ (a + 1) ^ r = (a + 1) ^ t * m :=
  ⟨(a + 1) ^ (r - t), pow_pos' _ _, by rw [← Nat.pow_add]; congr 1; omega⟩

/-- Whether a program is valid. -/
def notFence (x : Ins) : Bool := x.op != 4
def rowOk (r : List Ins) : Bool := r.all insValid && decide (r.length ≤ 7)
def shapeOk (p : List (List Ins)) : Bool := decide (p.length ≤ 3) && p.all rowOk && decide (cnt notFence p ≤ 12)
def progValid (p : List (List Ins)) : Bool := shapeOk p && decide (1 ≤ p.length) && decide (prodP p ≤ 3000)

theorem row_no {r : List Ins} {k : Nat} {x : Ins} (h : r[k]? = some x) (hx : insValid x = false) : rowOk r = false := by
  have hm := List.mem_of_getElem? h
  unfold rowOk
  rw [Bool.and_eq_false_iff]
  left
  rw [List.all_eq_false]
  exact ⟨x, hm, by simp [hx]⟩

theorem all_no {p : List (List Ins)} {k : Nat} {r : List Ins} (h : p[k]? = some r) (hr : rowOk r = false) : p.all rowOk = false := by
  rw [List.all_eq_false]
  exact ⟨r, List.mem_of_getElem? h, by simp [hr]⟩

theorem all_take_succ {α : Type} {f : α → Bool} {r : List α} {k : Nat} {x : α} (h : (r.take k).all f = true) (hx : r[k]? = some x) (hf : f x = true) : (r.take (k + 1)).all f = true := by
  rw [List.take_add_one, hx, List.all_append, h]; simp [hf]

theorem valid_le {p : List (List Ins)} (h : progValid p = true) : p.length ≤ 3 ∧ 1 ≤ p.length ∧ (∀ r ∈ p, r.length ≤ 7 ∧ ∀ x ∈ r, insValid x = true) ∧ cnt notFence p ≤ 12 ∧ prodP p ≤ 3000 := by
  unfold progValid shapeOk at h
  simp only [Bool.and_eq_true, decide_eq_true_eq, List.all_eq_true] at h
  obtain ⟨⟨⟨⟨h1, h2⟩, h3⟩, h4⟩, h5⟩ := h
  refine ⟨h1, h4, fun r hr => ?_, h3, h5⟩
  have := h2 r hr
  unfold rowOk at this
  simp only [Bool.and_eq_true, decide_eq_true_eq, List.all_eq_true] at this
  exact ⟨this.2, this.1⟩

end Go.Proofs.YtpbmlppdmdmfkaaGreatDoor

namespace Go.Proofs.YtpbmlppdmdmfkaaGreatDoor
open Go.RowKit

theorem times_any (q : Nat) (m : Int) (b : Nat) (w : World) (hc : w.cell? ⟨b, 0, none⟩ = some (.int .i64 (q : Int))) (hf : w.frozen? ⟨b, 0, none⟩ = false) (hq : q ≤ 3001) (h0 : 0 ≤ m) (hn : m ≤ 1048577) :
    Calls Tryz.prog 149 #[.int .i64 m, .pointer (some ⟨b, 0, none⟩)] w fun e w' => e = .returned (.tuple #[]) ∧ w.setCell ⟨b, 0, none⟩ (.int .i64 (cap (q * m.toNat) : Nat)) = w' := by
  obtain ⟨n, rfl⟩ := Int.eq_ofNat_of_zero_le h0
  rw [Int.toNat_natCast]
  have hn : n ≤ 1048577 := by omega
  have hm : q * n ≤ 3001 * 1048577 := Nat.mul_le_mul hq hn
  have e1 : ((q * n : Nat) : Int) = (q : Int) * n := by simp
  have hm2 : (q : Int) * n ≤ 3146780577 := by omega
  have hm3 : 0 ≤ (q : Int) * n := by omega
  have e2 : ((cap (q * n) : Nat) : Int) = min ((q : Int) * n) 3001 := by unfold cap; omega
  rw [e2]
  have E1 := hide e1; clear e1
  have E2 := hide e2; clear e2
  clear hm
  go_enter Tryz.func149, Tryz.ntmps149
  go_wp2
  · go_end0
    rw [show min ((q : Int) * n) 3001 = 3001 by omega]
    exact ⟨rfl, rfl⟩
  · go_end0
    rw [show min ((q : Int) * n) 3001 = (q : Int) * n by omega]
    exact ⟨rfl, rfl⟩

set_option maxRecDepth 100000 in
set_option maxHeartbeats 1600000 in
theorem execs_any (v : Value) (p : List (List Ins)) (w : World) (hp : RepP w v p) (hl : p.flatten.length ≤ 1048576) (hpl : p.length ≤ 1048576) :
    Calls Tryz.prog 66 #[v] w fun e w' => e = .returned (.int .i64 (cap (prodP p) : Nat)) ∧ Below w.heap.size w w' := by
  obtain ⟨a, c, rfl, hc1, hc2, hc3, hp⟩ := hp.open
  have HP := hide hp; clear hp
  have HL := hide hl; clear hl
  generalize hn : p.length = n at *
  have H := hide hn; clear hn
  go_enter Tryz.func66, Tryz.ntmps66
  go_wp2_with fail
  go_loopw [14] (fun i wr => ∃ k : Nat, k ≤ 3 ∧ i = .int .i64 k ∧ wr.cell? ⟨w.heap.size, 0, none⟩ = some (.int .i64 (cap (prodTo p k) : Nat)) ∧ wr.frozen? ⟨w.heap.size, 0, none⟩ = false ∧ Below w.heap.size w wr ∧ w.heap.size < wr.heap.size) (fun i _ => 3 - (intOf i).toNat)
  case atStart => exact ⟨0, by omega, rfl, by simp [go_sem, prodTo, cap], by simp [go_sem], ((Below.refl _ _).alloc (Nat.le_refl _) _), by simp⟩
  case round =>
    obtain ⟨k, hk, rfl, hcell, hfr, hb, hsz⟩ := hrel
    by_cases hlt : k < 3
    · obtain ⟨wl, rfl⟩ : ∃ wl : World, wl = wr := ⟨_, rfl⟩
      have hlt' : (k : Int) < 3 := by omega
      go_wp2_with fail
      go_loopw [6, 7, 19] (fun r wv i wr => ∃ j : Nat, j ≤ n ∧ i = .int .i64 j ∧ r = .int .i64 (cnt (fR k) (p.take j) : Nat) ∧ wv = .int .i64 (cnt (fW k) (p.take j) : Nat) ∧ Below wl.heap.size wl wr) (fun _ _ i _ => n - (intOf i).toNat)
      case atStart => exact ⟨0, by omega, rfl, by simp [cnt], by simp [cnt], Below.refl _ _⟩
      case round =>
        obtain ⟨j, hj, rfl, rfl, rfl, hb2⟩ := hrel
        by_cases hlt2 : j < n
        · obtain ⟨wm, rfl⟩ : ∃ wm : World, wm = wr := ⟨_, rfl⟩
          obtain ⟨x, hxk⟩ := get_of_lt (xs := p) (k := j) (by rw [H.out]; exact hlt2)
          obtain ⟨b, o, ra, rc, rfl, hbl, i0, i1⟩ := (HP.out.below (hb.trans (hb2.mono (Nat.le_of_lt hsz)))).row hxk
          have hlt2' := nat_of_lt hlt2
          obtain ⟨_, _, _, _, hr2, _, _⟩ := i1.open
          have hcR := cnt_take_succ (fR k) hxk
          have hcW := cnt_take_succ (fW k) hxk
          have hbR := Nat.le_trans (cnt_take_le (fR k) p j) HL.out
          have hbW := Nat.le_trans (cnt_take_le (fW k) p j) HL.out
          have hxl := Nat.le_trans (row_le_flatten hxk) HL.out
          have CR := hide hcR; have CW := hide hcW; have I1 := hide i1; have X := hide hxk
          clear hcR hcW i1 hxk
          generalize hR : cnt (fR k) (p.take j) = R at *
          generalize hW : cnt (fW k) (p.take j) = W at *
          clear hR hW
          go_wp2_with fail
          go_loopw [6, 7, 25] (fun r wv i wr => ∃ t : Nat, t ≤ x.length ∧ i = .int .i64 t ∧ r = .int .i64 (R + (x.take t).countP (fR k) : Nat) ∧ wv = .int .i64 (W + (x.take t).countP (fW k) : Nat) ∧ Below wm.heap.size wm wr) (fun _ _ i _ => x.length - (intOf i).toNat)
          case atStart => exact ⟨0, by omega, rfl, by simp, by simp, Below.refl _ _⟩
          case round =>
            obtain ⟨t, ht, rfl, rfl, rfl, hb3⟩ := hrel
            have hwm : w.heap.size ≤ wm.heap.size := by have := hb2.size; omega
            by_cases hlt3 : t < x.length
            · obtain ⟨y, hyk⟩ := get_of_lt (xs := x) (k := t) hlt3
              obtain ⟨b', o', rfl, hbl', j0, j1, j2, j3⟩ := (I1.out.below hb3).ins hyk
              have hlt3' := nat_of_lt hlt3
              have CR2 := hide (countP_take_succ (fR k) hyk)
              have CW2 := hide (countP_take_succ (fW k) hyk)
              have hbR2 : (x.take t).countP (fR k) ≤ 1048576 := Nat.le_trans List.countP_le_length (by simp; omega)
              have hbW2 : (x.take t).countP (fW k) ≤ 1048576 := Nat.le_trans List.countP_le_length (by simp; omega)
              have Y := hide hyk; clear hyk
              generalize hR2 : (x.take t).countP (fR k) = R2 at *
              generalize hW2 : (x.take t).countP (fW k) = W2 at *
              clear hR2 hW2
              by_cases hloc : y.loc = k
              · have CR3 : Hid ((x.take (t + 1)).countP (fR k) = R2 + if isRop y.op = true then 1 else 0) := by have h := CR2.out; rwa [fR_yes hloc] at h
                have CW3 : Hid ((x.take (t + 1)).countP (fW k) = W2 + if isWop y.op = true then 1 else 0) := by have h := CW2.out; rwa [fW_yes hloc] at h
                clear CR2 CW2
                rw [hloc] at j1
                clear hloc
                have hkk : ((k : Int) == k) = true := by simp
                generalize hro : isRop y.op = ro at *
                generalize hwo : isWop y.op = wo at *
                have RO := hide hro; have WO := hide hwo; clear hro hwo
                cases ro <;> cases wo
                all_goals
                  go_wp2_with (first | (go_at_call 150; (with_reducible refine (reads_raw _ _ _ _ _).mono ?_); rw [RO.out]; rintro e w3 ⟨rfl, hb4⟩; obtain ⟨hc4, hf4⟩ := bcell hb4) | (go_at_call 151; (with_reducible refine (writes_raw _ _ _ _ _).mono ?_); rw [WO.out]; rintro e w4 ⟨rfl, hb5⟩; obtain ⟨hc5, hf5⟩ := bcell hb5))
                  go_roundw
                  case rel => exact ⟨t + 1, by omega, by go_num, by rw [CR3.out]; simp; try omega, by rw [CW3.out]; simp; try omega, (((hb3.alloc hb3.size _).trans (hb4.mono (by have := hb3.size; simp; omega))).trans (hb5.mono (by have := hb3.size; have := hb4.size; simp at this; omega)))⟩
                  case measure => simp [intOf]; omega
              · have CR3 : Hid ((x.take (t + 1)).countP (fR k) = R2) := hide (by have h := CR2.out; rw [fR_no hloc] at h; simpa using h)
                have CW3 : Hid ((x.take (t + 1)).countP (fW k) = W2) := hide (by have h := CW2.out; rw [fW_no hloc] at h; simpa using h)
                clear CR2 CW2
                have hkk : (y.loc == (k : Int)) = false := by simpa using hloc
                clear hloc
                go_wp2_with fail
                go_roundw
                case rel => exact ⟨t + 1, by omega, by go_num, by rw [CR3.out], by rw [CW3.out], hb3.alloc hb3.size _⟩
                case measure => simp [intOf]; omega
            · have e : t = x.length := by omega
              have CR4 : Hid (cnt (fR k) (p.take (j + 1)) = R + (x.take t).countP (fR k)) := by have h := CR.out; rwa [e, List.take_length]
              have CW4 : Hid (cnt (fW k) (p.take (j + 1)) = W + (x.take t).countP (fW k)) := by have h := CW.out; rwa [e, List.take_length]
              have hbR2 : (x.take t).countP (fR k) ≤ 1048576 := Nat.le_trans List.countP_le_length (by simp; omega)
              have hbW2 : (x.take t).countP (fW k) ≤ 1048576 := Nat.le_trans List.countP_le_length (by simp; omega)
              generalize hR2 : (x.take t).countP (fR k) = R2 at *
              generalize hW2 : (x.take t).countP (fW k) = W2 at *
              clear hR2 hW2 e
              go_wp2_with fail
              go_roundw
              case rel => exact ⟨j + 1, by omega, by go_num, by rw [CR4.out], by rw [CW4.out], hb2.trans (hb3.mono hb2.size)⟩
              case measure => simp [intOf]; omega
        · have e : j = n := by omega
          have hpt : p.take j = p := List.take_of_length_le (by rw [H.out]; omega)
          have hbR := Nat.le_trans (cnt_le_flatten (fR k) p) HL.out
          have hbW := Nat.le_trans (cnt_le_flatten (fW k) p) HL.out
          have PS : Hid (prodTo p (k + 1) = prodTo p k * ((cnt (fW k) p + 1) ^ cnt (fR k) p * fact (cnt (fW k) p))) := hide rfl
          rw [hpt]
          clear hpt e
          generalize hR : cnt (fR k) p = R at *
          generalize hW : cnt (fW k) p = W at *
          generalize hQ : prodTo p k = Q at *
          clear hR hW hQ
          have hb := hb.trans (hb2.mono (Nat.le_of_lt hsz))
          have hcell : wr.cell? ⟨w.heap.size, 0, none⟩ = some (.int .i64 (cap Q : Nat)) := (hb2.cell (p := ⟨w.heap.size, 0, none⟩) hsz).trans hcell
          have hfr : wr.frozen? ⟨w.heap.size, 0, none⟩ = false := (hb2.frozen (p := ⟨w.heap.size, 0, none⟩) hsz).trans hfr
          have hsz : w.heap.size < wr.heap.size := by have := hb2.size; omega
          clear hb2
          obtain ⟨wn, rfl⟩ : ∃ wn : World, wn = wr := ⟨_, rfl⟩
          go_wp2_with fail
          go_loopw [52] (fun i wr => ∃ t : Nat, t ≤ R ∧ i = .int .i64 t ∧ wr.cell? ⟨w.heap.size, 0, none⟩ = some (.int .i64 (cap (Q * (W + 1) ^ t) : Nat)) ∧ wr.frozen? ⟨w.heap.size, 0, none⟩ = false ∧ Below w.heap.size w wr ∧ w.heap.size < wr.heap.size) (fun i _ => R - (intOf i).toNat)
          case atStart => exact ⟨0, by omega, rfl, by simpa using hcell, hfr, hb, hsz⟩
          case round =>
            obtain ⟨t, ht, rfl, hcell2, hfr2, hb2, hsz2⟩ := hrel
            by_cases hlt3 : t < R
            · have E : Hid (cap (cap (Q * (W + 1) ^ t) * (W + 1)) = cap (Q * (W + 1) ^ (t + 1))) := by
                apply hide
                rw [cap_mul _ _ (by omega), Nat.pow_succ, Nat.mul_assoc]
              have hcl := cap_le (Q * (W + 1) ^ t)
              generalize cap (Q * (W + 1) ^ t) = C at *
              go_wp2_with (go_at_call 149; (with_reducible refine (times_any C _ _ _ hcell2 hfr2 hcl (by omega) (by omega)).mono ?_); rintro e w3 ⟨rfl, rfl⟩)
              go_roundw
              case rel => exact ⟨t + 1, by omega, by go_num, by rw [← E.out]; exact World.cell?_setCell_same _ _ _ hcell2, by simpa using hfr2, hb2.setCell (Nat.le_refl _) _, by simpa using hsz2⟩
              case measure => simp [intOf]; omega
            · have e : t = R := by omega
              subst e
              generalize hQ : Q * (W + 1) ^ t = Q2 at *
              have HQ := hide hQ; clear hQ
              clear hcell hfr hb hsz
              obtain ⟨wo, rfl⟩ : ∃ wo : World, wo = wr := ⟨_, rfl⟩
              go_wp2_with fail
              go_loopw [12, 60] (fun _ i wr => ∃ s : Nat, s ≤ W ∧ i = .int .i64 s ∧ wr.cell? ⟨w.heap.size, 0, none⟩ = some (.int .i64 (cap (Q2 * fact s) : Nat)) ∧ wr.frozen? ⟨w.heap.size, 0, none⟩ = false ∧ Below w.heap.size w wr ∧ w.heap.size < wr.heap.size) (fun _ i _ => W - (intOf i).toNat)
              case atStart => exact ⟨0, by omega, rfl, by simpa [fact] using hcell2, hfr2, hb2, hsz2⟩
              case round =>
                obtain ⟨s, hs, rfl, hcell, hfr, hb, hsz⟩ := hrel
                by_cases hlt4 : s < W
                · have E : Hid (cap (cap (Q2 * fact s) * (s + 1)) = cap (Q2 * fact (s + 1))) := by
                    apply hide
                    rw [cap_mul _ _ (by omega), fact, Nat.mul_assoc]
                  have hcl := cap_le (Q2 * fact s)
                  generalize cap (Q2 * fact s) = C at *
                  clear hcell2 hfr2 hb2 hsz2
                  go_wp2_with (go_at_call 149; (with_reducible refine (times_any C _ _ _ hcell hfr hcl (by omega) (by omega)).mono ?_); rintro e w3 ⟨rfl, rfl⟩)
                  go_roundw
                  case rel => exact ⟨s + 1, by omega, by go_num, by rw [← E.out]; exact World.cell?_setCell_same _ _ _ hcell, by simpa using hfr, hb.setCell (Nat.le_refl _) _, by simpa using hsz⟩
                  case measure => simp [intOf]; omega
                · have e : s = W := by omega
                  subst e
                  have PS2 : Hid (prodTo p (k + 1) = Q2 * fact s) := hide (by rw [PS.out, ← HQ.out, Nat.mul_assoc])
                  clear hcell2 hfr2 hb2 hsz2
                  go_wp2_with fail
                  go_roundw
                  case rel => exact ⟨k + 1, by omega, by go_num, by rw [PS2.out]; exact hcell, hfr, hb, hsz⟩
                  case measure => simp [intOf]; omega
    · have e : k = 3 := by omega
      subst e
      go_wp2_with fail
      go_ret
      exact ⟨rfl, hb⟩

end Go.Proofs.YtpbmlppdmdmfkaaGreatDoor

namespace Go.Proofs.YtpbmlppdmdmfkaaGreatDoor
open Go.RowKit

def fRW (writes : Bool) (loc : Int) (x : Ins) : Bool := x.loc == loc && (if writes = true then isWop x.op else isRop x.op)
theorem fRW_yes {b : Bool} {loc : Int} {x : Ins} (h : x.loc = loc) : fRW b loc x = (if b = true then isWop x.op else isRop x.op) := by simp [fRW, h]
theorem fRW_no {b : Bool} {loc : Int} {x : Ins} (h : x.loc ≠ loc) : fRW b loc x = false := by simp [fRW, h]

set_option maxRecDepth 100000 in
set_option maxHeartbeats 1600000 in
theorem l1Count_any (v : Value) (p : List (List Ins)) (loc : Int) (wr? : Bool) (w : World) (hp : RepP w v p) (hl : p.flatten.length ≤ 1048576) (hpl : p.length ≤ 1048576) :
    Calls Tryz.prog 220 #[v, .int .i64 loc, .bool wr?] w fun e w' => e = .returned (.int .i64 (cnt (fRW wr? loc) p : Nat)) ∧ Below w.heap.size w w' := by
  obtain ⟨a, c, rfl, hc1, hc2, hc3, hp⟩ := hp.open
  have HP := hide hp; clear hp
  have HL := hide hl; clear hl
  generalize hn : p.length = n at *
  have H := hide hn; clear hn
  generalize hF : fRW wr? loc = F at *
  have HF := hide hF; clear hF
  go_enter Tryz.func220, Tryz.ntmps220
  go_wp2_with fail
  go_loopw [7, 8] (fun r i wr => ∃ j : Nat, j ≤ n ∧ i = .int .i64 j ∧ r = .int .i64 (cnt F (p.take j) : Nat) ∧ Below w.heap.size w wr) (fun _ i _ => n - (intOf i).toNat)
  case atStart => exact ⟨0, by omega, rfl, by simp [cnt], Below.refl _ _⟩
  case round =>
    obtain ⟨j, hj, rfl, rfl, hb2⟩ := hrel
    by_cases hlt2 : j < n
    · obtain ⟨wm, rfl⟩ : ∃ wm : World, wm = wr := ⟨_, rfl⟩
      obtain ⟨x, hxk⟩ := get_of_lt (xs := p) (k := j) (by rw [H.out]; exact hlt2)
      obtain ⟨b, o, ra, rc, rfl, hbl, i0, i1⟩ := (HP.out.below hb2).row hxk
      have hlt2' := nat_of_lt hlt2
      obtain ⟨_, _, _, _, hr2, _, _⟩ := i1.open
      have CR := hide (cnt_take_succ F hxk)
      have hbR := Nat.le_trans (cnt_take_le F p j) HL.out
      have hxl := Nat.le_trans (row_le_flatten hxk) HL.out
      have I1 := hide i1; have X := hide hxk
      clear i1 hxk
      generalize hR : cnt F (p.take j) = R at *
      clear hR
      go_wp2_with fail
      go_loopw [7, 9] (fun r i wr => ∃ t : Nat, t ≤ x.length ∧ i = .int .i64 t ∧ r = .int .i64 (R + (x.take t).countP F : Nat) ∧ Below wm.heap.size wm wr) (fun _ i _ => x.length - (intOf i).toNat)
      case atStart => exact ⟨0, by omega, rfl, by simp, Below.refl _ _⟩
      case round =>
        obtain ⟨t, ht, rfl, rfl, hb3⟩ := hrel
        have hbR2 : (x.take t).countP F ≤ 1048576 := Nat.le_trans List.countP_le_length (by simp; omega)
        have i0' : wr.cell? ⟨b, o + j, none⟩ = some (.slice ra x.length rc) := (hb3.cell (p := ⟨b, o + j, none⟩) hbl).trans i0
        by_cases hlt3 : t < x.length
        · obtain ⟨y, hyk⟩ := get_of_lt (xs := x) (k := t) hlt3
          obtain ⟨b', o', rfl, hbl', j0, j1, j2, j3⟩ := (I1.out.below hb3).ins hyk
          have hlt3' := nat_of_lt hlt3
          have CR2 := hide (countP_take_succ F hyk)
          have Y := hide hyk; clear hyk
          generalize hR2 : (x.take t).countP F = R2 at *
          clear hR2
          by_cases hloc : y.loc = loc
          · have CR3 : Hid ((x.take (t + 1)).countP F = R2 + if (if wr? = true then isWop y.op else isRop y.op) = true then 1 else 0) := by have h := CR2.out; rwa [← HF.out, fRW_yes hloc, HF.out] at h
            clear CR2
            rw [hloc] at j1
            clear hloc HF
            have hkk : (loc == loc) = true := by simp
            generalize hro : isRop y.op = ro at *
            generalize hwo : isWop y.op = wo at *
            have RO := hide hro; have WO := hide hwo; clear hro hwo
            cases wr?
            · cases ro
              all_goals
                go_wp2_with (go_at_call 240; (with_reducible refine (l1Reads_raw _ _ _ _ _).mono ?_); rw [RO.out]; rintro e w3 ⟨rfl, hb4⟩)
                go_roundw
                case rel => exact ⟨t + 1, by omega, by go_num, by rw [CR3.out]; simp; try omega, (hb3.alloc hb3.size _).trans (hb4.mono (by have := hb3.size; simp; omega))⟩
                case measure => simp [intOf]; omega
            · cases wo
              all_goals
                go_wp2_with (go_at_call 241; (with_reducible refine (l1Writes_raw _ _ _ _ _).mono ?_); rw [WO.out]; rintro e w3 ⟨rfl, hb4⟩)
                go_roundw
                case rel => exact ⟨t + 1, by omega, by go_num, by rw [CR3.out]; simp; try omega, (hb3.alloc hb3.size _).trans (hb4.mono (by have := hb3.size; simp; omega))⟩
                case measure => simp [intOf]; omega
          · have CR3 : Hid ((x.take (t + 1)).countP F = R2) := hide (by have h := CR2.out; rw [← HF.out, fRW_no hloc, HF.out] at h; simpa using h)
            clear CR2
            have hkk : (y.loc == loc) = false := by simpa using hloc
            clear hloc
            go_wp2_with fail
            go_roundw
            case rel => exact ⟨t + 1, by omega, by go_num, by rw [CR3.out], hb3.alloc hb3.size _⟩
            case measure => simp [intOf]; omega
        · have e : t = x.length := by omega
          have CR4 : Hid (cnt F (p.take (j + 1)) = R + (x.take t).countP F) := by have h := CR.out; rwa [e, List.take_length]
          generalize hR2 : (x.take t).countP F = R2 at *
          clear hR2 e
          go_wp2_with fail
          go_roundw
          case rel => exact ⟨j + 1, by omega, by go_num, by rw [CR4.out], hb2.trans (hb3.mono hb2.size)⟩
          case measure => simp [intOf]; omega
    · have e : j = n := by omega
      have hpt : p.take j = p := List.take_of_length_le (by rw [H.out]; omega)
      rw [hpt]
      clear hpt
      go_wp2_with fail
      go_ret
      exact ⟨rfl, hb2⟩

theorem fRW_true (loc : Int) : fRW true loc = fW loc := by funext x; simp [fRW, fW]
theorem fRW_false (loc : Int) : fRW false loc = fR loc := by funext x; simp [fRW, fR]

set_option maxRecDepth 100000 in
set_option maxHeartbeats 1600000 in
theorem l1Execs_any (v : Value) (p : List (List Ins)) (w : World) (hp : RepP w v p) (hl : p.flatten.length ≤ 1048576) (hpl : p.length ≤ 1048576) :
    Calls Tryz.prog 141 #[v, .int .i64 3000] w fun e w' => e = .returned (.int .i64 (cap (prodP p) : Nat)) ∧ Below w.heap.size w w' := by
  have HP := hide hp; clear hp
  have HL := hide hl; clear hl
  have hPP : prodTo p 3 = prodP p := rfl
  have PP := hide hPP; clear hPP
  go_enter Tryz.func141, Tryz.ntmps141
  go_wp2_with fail
  go_loopw [5, 6] (fun q i wr => ∃ k N : Nat, k ≤ 3 ∧ i = .int .i64 k ∧ q = .int .i64 N ∧ Hid (cap N = cap (prodTo p k)) ∧ N ≤ 3145731000 ∧ Below w.heap.size w wr) (fun _ i _ => 3 - (intOf i).toNat)
  case atStart => exact ⟨0, 1, by omega, rfl, rfl, hide rfl, by omega, Below.refl _ _⟩
  case round =>
    obtain ⟨k, N, hk, rfl, rfl, hN, hNb, hb⟩ := hrel
    by_cases hlt : k < 3
    · have hlt' : (k : Int) ≤ 2 := by omega
      have hbR := Nat.le_trans (cnt_le_flatten (fR k) p) HL.out
      have hbW := Nat.le_trans (cnt_le_flatten (fW k) p) HL.out
      have PS : Hid (prodTo p (k + 1) = prodTo p k * ((cnt (fW k) p + 1) ^ cnt (fR k) p * fact (cnt (fW k) p))) := hide rfl
      have C1 : ∀ w', RepP w' v p → Calls Tryz.prog 220 #[v, .int .i64 (k : Int), .bool true] w' fun e w2 => e = .returned (.int .i64 (cnt (fW k) p : Nat)) ∧ Below w'.heap.size w' w2 := fun w' h => by
        have := l1Count_any v p k true w' h HL.out hpl; rwa [fRW_true] at this
      have C2 : ∀ w', RepP w' v p → Calls Tryz.prog 220 #[v, .int .i64 (k : Int), .bool false] w' fun e w2 => e = .returned (.int .i64 (cnt (fR k) p : Nat)) ∧ Below w'.heap.size w' w2 := fun w' h => by
        have := l1Count_any v p k false w' h HL.out hpl; rwa [fRW_false] at this
      generalize hR : cnt (fR k) p = R at *
      generalize hW : cnt (fW k) p = W at *
      generalize hQ : prodTo p k = Q at *
      have D1 := hide C1; have D2 := hide C2
      clear hR hW hQ C1 C2
      go_wp2_with (go_at_call 220; (with_reducible refine (D1.out _ (HP.out.below hb)).mono ?_); rintro e w1 ⟨rfl, hb1⟩)
      have hb := hb.trans (hb1.mono hb.size)
      clear hb1
      go_loopw [5, 8] (fun q i wr => ∃ t M : Nat, t ≤ R ∧ i = .int .i64 t ∧ q = .int .i64 M ∧ Hid (cap M = cap (Q * (W + 1) ^ t)) ∧ M ≤ 3145731000 ∧ Below w.heap.size w wr) (fun _ i _ => R - (intOf i).toNat)
      case atStart => exact ⟨0, N, by omega, rfl, rfl, hide (by simpa using hN.out), hNb, hb⟩
      case round =>
        clear hb hN hNb
        obtain ⟨t, M, ht, rfl, rfl, hM, hMb, hb⟩ := hrel
        by_cases hgo : t < R ∧ M ≤ 3000
        · obtain ⟨hlt3, hM3⟩ := hgo
          have hlt3' := nat_of_lt hlt3
          have hM3' : (M : Int) ≤ 3000 := by omega
          have hmul : M * (W + 1) ≤ 3000 * 1048577 := Nat.mul_le_mul hM3 (by omega)
          have e1 : ((M * (W + 1) : Nat) : Int) = (M : Int) * (W + 1) := by simp
          have hmul2 : (M : Int) * (W + 1) ≤ 3145731000 := by omega
          have hmul3 : 0 ≤ (M : Int) * (W + 1) := by omega
          have E : Hid (cap (M * (W + 1)) = cap (Q * (W + 1) ^ (t + 1))) := hide (by rw [cap_mul' hM.out _ (by omega), Nat.pow_succ, Nat.mul_assoc])
          have E1 := hide e1; clear e1
          go_wp2_with (go_at_call 220; (with_reducible refine (D2.out _ (HP.out.below hb)).mono ?_); rintro e w1 ⟨rfl, hb1⟩)
          go_roundw
          case rel => exact ⟨t + 1, M * (W + 1), by omega, by go_num, by rw [E1.out], E, by omega, hb.trans (hb1.mono hb.size)⟩
          case measure => simp [intOf]; omega
        · have hM2 : Hid (cap M = cap (Q * (W + 1) ^ R)) := hide (by
            by_cases h3 : 3000 < M
            · obtain ⟨m, h1, h2⟩ := pow_mul_rest (a := W) ht
              rw [h2, ← Nat.mul_assoc]
              exact cap_past hM.out h3 m h1
            · rw [show R = t by omega]; exact hM.out)
          have PS2 : Hid (prodTo p (k + 1) = (Q * (W + 1) ^ R) * fact W) := hide (by rw [PS.out, Nat.mul_assoc])
          by_cases hlt3 : t < R
          all_goals
            have hM3 : t < R → 3000 < (M : Int) := fun h => by omega
            have HM3 := hide hM3; clear hM3
            try (have hM4 : 3000 < (M : Int) := HM3.out hlt3)
            go_wp2_with (go_at_call 220; (with_reducible refine (D2.out _ (HP.out.below hb)).mono ?_); rintro e w1 ⟨rfl, hb1⟩)
            have hb := hb.trans (hb1.mono hb.size)
            clear hb1
            generalize hQ2 : Q * (W + 1) ^ R = Q2 at *
            clear hQ2
            go_loopw [5, 9] (fun q i wr => ∃ s L : Nat, 1 ≤ s ∧ s ≤ W + 1 ∧ i = .int .i64 (s + 1) ∧ q = .int .i64 L ∧ Hid (cap L = cap (Q2 * fact s)) ∧ L ≤ 3145731000 ∧ Hid (s ≤ W ∨ s = 1) ∧ Below w.heap.size w wr) (fun _ i _ => W + 1 - (intOf i).toNat)
            case atStart => exact ⟨1, M, by omega, by omega, rfl, rfl, hide (by simpa [fact] using hM2.out), hMb, hide (.inr rfl), hb⟩
            case round =>
              clear hb
              obtain ⟨s, L, hs1, hs2, rfl, rfl, hL, hLb, hsW, hb⟩ := hrel
              by_cases hgo2 : s + 1 ≤ W ∧ L ≤ 3000
              · obtain ⟨hlt5, hL3⟩ := hgo2
                have hlt5' : (s : Int) + 1 ≤ W := by omega
                have hL3' : (L : Int) ≤ 3000 := by omega
                have hmul : L * (s + 1) ≤ 3000 * 1048577 := Nat.mul_le_mul hL3 (by omega)
                have e1 : ((L * (s + 1) : Nat) : Int) = (L : Int) * (s + 1) := by simp
                have hmul2 : (L : Int) * (s + 1) ≤ 3145731000 := by omega
                have hmul3 : 0 ≤ (L : Int) * (s + 1) := by omega
                have E : Hid (cap (L * (s + 1)) = cap (Q2 * fact (s + 1))) := hide (by rw [cap_mul' hL.out _ (by omega), fact, Nat.mul_assoc])
                have E1 := hide e1; clear e1
                go_wp2_with fail
                go_roundw
                case rel => exact ⟨s + 1, L * (s + 1), by omega, by omega, by go_num, by rw [E1.out], E, by omega, hide (.inl hlt5), hb⟩
                case measure => simp [intOf]; omega
              · have hL2 : Hid (cap L = cap (prodTo p (k + 1))) := hide (by
                  rw [PS2.out]
                  by_cases h3 : 3000 < L
                  · rcases hsW.out with h | h
                    · obtain ⟨m, h1, h2⟩ := fact_mul h
                      rw [h2, ← Nat.mul_assoc]
                      exact cap_past hL.out h3 m h1
                    · have hl := hL.out
                      rw [h, show fact 1 = 1 from rfl, Nat.mul_one] at hl
                      exact cap_past hl h3 _ (fact_pos W)
                  · by_cases hs : s = W
                    · rw [← hs]; exact hL.out
                    · rcases hsW.out with h | h
                      · omega
                      · have h0 : W = 0 := by omega
                        have hl := hL.out
                        rw [h] at hl
                        rw [h0]; exact hl)
                by_cases hlt5 : s + 1 ≤ W
                all_goals
                  have hlt5' : s + 1 ≤ W → 3000 < (L : Int) := fun h => by omega
                  have HL3 := hide hlt5'; clear hlt5'
                  try (have hL4 : 3000 < (L : Int) := HL3.out hlt5)
                  go_wp2_with fail
                  go_roundw
                  case rel => exact ⟨k + 1, L, by omega, by go_num, rfl, hL2, hLb, hb⟩
                  case measure => simp [intOf]; omega
    · have e : k = 3 := by omega
      subst e
      have hN2 : Hid (cap N = cap (prodP p)) := hide (by rw [hN.out, PP.out])
      by_cases h3 : 3000 < N
      · have E : Hid (((cap (prodP p) : Nat) : Int) = 3001) := hide (by rw [← hN2.out]; unfold cap; omega)
        have h3' : (3000 : Int) < N := by omega
        go_wp2_with fail
        go_ret
        rw [E.out]
        exact ⟨rfl, hb⟩
      · have E : Hid (((cap (prodP p) : Nat) : Int) = N) := hide (by rw [← hN2.out]; unfold cap; omega)
        have h3' : (N : Int) ≤ 3000 := by omega
        go_wp2_with fail
        go_ret
        rw [E.out]
        exact ⟨rfl, hb⟩

end Go.Proofs.YtpbmlppdmdmfkaaGreatDoor
