/-
  Plain: the gaps of a program.
-/
import Derived.Test.YtpnmphfdfadlcaaP1
namespace Go.Proofs.Ytpnmphfdfadlcaa

structure Gp where
  t : Int
  i : Int
deriving DecidableEq

abbrev Gp.v (x : Gp) : Value := .agg #[.int .i64 x.t, .int .i64 x.i]
def GapE : El Gp := ⟨2, by decide, fun x => [.int .i64 x.t, .int .i64 x.i], fun _ => rfl, fun x u h => by simp at h; rcases h with rfl | rfl <;> rfl⟩

/-- Whether a fence fits before instruction i of a thread. -/
def gapAt (r : List Ins) (i : Nat) : Bool :=
  match r[i - 1]?, r[i]? with
  | some x, some y => decide (1 ≤ i) && (x.op != 4 && y.op != 4)
  | _, _ => false
def rowGaps (t : Nat) (r : List Ins) (n : Nat) : List Gp := ((List.range n).filter (gapAt r)).map fun (i : Nat) => ⟨t, i⟩
def gapsTo (p : List (List Ins)) (j : Nat) : List Gp := (List.range j).flatMap fun t => match p[t]? with
  | some r => rowGaps t r r.length
  | none => []
def gapsP (p : List (List Ins)) : List Gp := gapsTo p p.length

theorem rowGaps_succ (t : Nat) (r : List Ins) (n : Nat) : rowGaps t r (n + 1) = rowGaps t r n ++ if gapAt r n = true then [⟨t, n⟩] else [] := by
  unfold rowGaps
  rw [List.range_succ, List.filter_append, List.map_append]
  by_cases h : gapAt r n = true <;> simp [h]

theorem rowGaps_one (t : Nat) (r : List Ins) : rowGaps t r 1 = [] := by
  have h : gapAt r 0 = false := by unfold gapAt; split <;> simp
  rw [rowGaps_succ, if_neg (by simp [h])]; simp [rowGaps]

theorem rowGaps_zero (t : Nat) (r : List Ins) : rowGaps t r 0 = [] := by simp [rowGaps]

theorem gapsTo_succ {p : List (List Ins)} {j : Nat} {r : List Ins} (h : p[j]? = some r) : gapsTo p (j + 1) = gapsTo p j ++ rowGaps j r r.length := by
  unfold gapsTo
  rw [List.range_succ, List.flatMap_append]
  simp [h]

theorem rowGaps_length (t : Nat) (r : List Ins) (n : Nat) : (rowGaps t r n).length ≤ n := by
  unfold rowGaps
  rw [List.length_map]
  exact Nat.le_trans (List.length_filter_le _ _) (by simp)

theorem gapsTo_length (p : List (List Ins)) : ∀ j, j ≤ p.length → (gapsTo p j).length ≤ (p.take j).flatten.length := by
  intro j
  induction j with
  | zero => intro _; simp [gapsTo]
  | succ j ih =>
    intro hj
    obtain ⟨r, hr⟩ := get_of_lt (xs := p) (k := j) hj
    rw [gapsTo_succ hr, List.take_add_one, hr, List.flatten_append, List.length_append, List.length_append]
    have h1 := ih (by omega)
    have h2 := rowGaps_length j r r.length
    simp only [Option.toList_some, List.flatten_cons, List.flatten_nil, List.append_nil]
    omega

theorem rowGaps_step {t : Nat} {r : List Ins} {s : Nat} {x y : Ins} (hx : r[s]? = some x) (hy : r[s + 1]? = some y) : rowGaps t r (s + 1 + 1) = rowGaps t r (s + 1) ++ if (x.op != 4 && y.op != 4) = true then [⟨t, (s + 1 : Nat)⟩] else [] := by
  rw [rowGaps_succ]
  have : gapAt r (s + 1) = (x.op != 4 && y.op != 4) := by unfold gapAt; simp [hx, hy]
  rw [this]

theorem gapAt_of {r : List Ins} {i : Nat} {x y : Ins} (hx : r[i - 1]? = some x) (hy : r[i]? = some y) (h1 : 1 ≤ i) : gapAt r i = (x.op != 4 && y.op != 4) := by
  unfold gapAt; rw [hx, hy]; simp [h1]

end Go.Proofs.Ytpnmphfdfadlcaa
