/-
  Plain: the outcome of a candidate.
-/
import Derived.Test.YtpnmphfdfadlcaaV3
namespace Go.Proofs.Ytpnmphfdfadlcaa

def valAt (vals : List Int) (j : Int) : Int := (vals[j.toNat]?).getD 0
def frAt (fr : List Int) (r : Int) : Int := (fr[r.toNat]?).getD 0
def regOf (fr vals : List Int) (r : Int) : Int := if r < 0 then 0 else valAt vals (frAt fr r)
def regV (p : List (List Ins)) (es : List Ev) (fr vals : List Int) (t idx g : Int) : Int := regOf fr vals (lastRd p es t idx g)
def lastO (od : List (List Int)) (l : Nat) : Int := (((od[l]?).getD []).getLast?).getD 0
def memV (od : List (List Int)) (vals : List Int) (l : Nat) : Int := valAt vals (lastO od l)
def outRow (p : List (List Ins)) (es : List Ev) (fr vals : List Int) (t n : Nat) (k : Nat) : List Int := (List.range k).map fun (g : Nat) => regV p es fr vals (t : Int) (n : Int) (g : Int)
def outTo (p : List (List Ins)) (es : List Ev) (fr vals : List Int) (j : Nat) : List Int := (List.range j).flatMap fun t => match p[t]? with
  | some r => outRow p es fr vals t r.length 3
  | none => []
def outMem (od : List (List Int)) (vals : List Int) (k : Nat) : List Int := (List.range k).map (memV od vals)
def outL (p : List (List Ins)) (es : List Ev) (x : Xc) (vals : List Int) : List Int := outTo p es x.fr vals p.length ++ outMem x.od vals 3
/-- What OutcomeOf hands back. -/
def outF (p : List (List Ins)) (x : Xc) : List Int × Bool := if execOk p x = true ∧ valsOk p x.fr = true then (outL p (evAll p) x (valsL p x.fr), true) else ([], false)

theorem outRow_succ (p : List (List Ins)) (es : List Ev) (fr vals : List Int) (t n k : Nat) : outRow p es fr vals t n (k + 1) = outRow p es fr vals t n k ++ [regV p es fr vals (t : Int) (n : Int) (k : Int)] := by
  simp [outRow, List.range_succ]
theorem outMem_succ (od : List (List Int)) (vals : List Int) (k : Nat) : outMem od vals (k + 1) = outMem od vals k ++ [memV od vals k] := by
  simp [outMem, List.range_succ]
theorem outTo_succ {p : List (List Ins)} (es : List Ev) (fr vals : List Int) {j : Nat} {r : List Ins} (h : p[j]? = some r) : outTo p es fr vals (j + 1) = outTo p es fr vals j ++ outRow p es fr vals j r.length 3 := by
  unfold outTo
  rw [List.range_succ, List.flatMap_append]
  simp [h]
theorem outRow_length (p : List (List Ins)) (es : List Ev) (fr vals : List Int) (t n k : Nat) : (outRow p es fr vals t n k).length = k := by simp [outRow]
theorem outMem_length (od : List (List Int)) (vals : List Int) (k : Nat) : (outMem od vals k).length = k := by simp [outMem]
theorem outTo_length (p : List (List Ins)) (es : List Ev) (fr vals : List Int) : ∀ j, j ≤ p.length → (outTo p es fr vals j).length = 3 * j := by
  intro j
  induction j with
  | zero => intro _; rfl
  | succ j ih =>
    intro hj
    obtain ⟨r, hr⟩ := get_of_lt (xs := p) (k := j) hj
    rw [outTo_succ es fr vals hr, List.length_append, ih (by omega), outRow_length]; omega
theorem outL_length (p : List (List Ins)) (es : List Ev) (x : Xc) (vals : List Int) : (outL p es x vals).length = 3 * p.length + 3 := by
  unfold outL
  rw [List.length_append, outTo_length p es x.fr vals p.length (Nat.le_refl _), outMem_length]

end Go.Proofs.Ytpnmphfdfadlcaa
