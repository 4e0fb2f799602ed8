/-
  Plain: what is said of an outcome, one condition for each register that is read and each location that is written.
-/
import Derived.Test.YtpnmphfdfadlcaaF3
import Derived.Test.YtpnmphfdfadlcaaT1
namespace Go.Proofs.Ytpnmphfdfadlcaa

def readsR (r : List Ins) (g : Int) : Bool := r.any fun x => isRop x.op && x.reg == g
def writesP (p : List (List Ins)) (l : Int) : Bool := p.any fun row => row.any fun x => isWop x.op && x.loc == l
def leafR (t g : Nat) (x : Int) : Cs := ⟨1, t, g, x, ⟨none, 0, 0⟩⟩
def leafM (l : Nat) (x : Int) : Cs := ⟨2, 0, l, x, ⟨none, 0, 0⟩⟩
def sayR (t : Nat) (r : List Ins) (o : List Int) (k : Nat) : List Cs := (List.range k).flatMap fun (g : Nat) => if readsR r (g : Int) = true then [leafR t g ((o[3 * t + g]?).getD 0)] else []
def sayTo (p : List (List Ins)) (o : List Int) (j : Nat) : List Cs := (List.range j).flatMap fun t => match p[t]? with
  | some r => sayR t r o 3
  | none => []
def sayM (p : List (List Ins)) (o : List Int) (k : Nat) : List Cs := (List.range k).flatMap fun (l : Nat) => if writesP p (l : Int) = true then [leafM l ((o[3 * p.length + l]?).getD 0)] else []
def saidL (p : List (List Ins)) (o : List Int) : List Cs := sayTo p o p.length ++ sayM p o 3

theorem sayR_succ (t : Nat) (r : List Ins) {o : List Int} (k : Nat) {x : Int} (h : o[3 * t + k]? = some x) : sayR t r o (k + 1) = sayR t r o k ++ if readsR r k = true then [leafR t k x] else [] := by
  unfold sayR
  rw [List.range_succ, List.flatMap_append]
  simp [h]
theorem sayM_succ (p : List (List Ins)) {o : List Int} (k : Nat) {x : Int} (h : o[3 * p.length + k]? = some x) : sayM p o (k + 1) = sayM p o k ++ if writesP p k = true then [leafM k x] else [] := by
  unfold sayM
  rw [List.range_succ, List.flatMap_append]
  simp [h]
theorem sayTo_succ {p : List (List Ins)} (o : List Int) {j : Nat} {r : List Ins} (h : p[j]? = some r) : sayTo p o (j + 1) = sayTo p o j ++ sayR j r o 3 := by
  unfold sayTo
  rw [List.range_succ, List.flatMap_append]
  simp [h]
theorem say_if {α : Type} (b : Bool) (x : α) : (if b = true then [x] else []).length ≤ 1 := by split <;> simp
theorem sayR_length (t : Nat) (r : List Ins) (o : List Int) (k : Nat) : (sayR t r o k).length ≤ k := by
  induction k with
  | zero => simp [sayR]
  | succ k ih =>
    unfold sayR at ih ⊢
    rw [List.range_succ, List.flatMap_append, List.length_append]
    simp only [List.flatMap_cons, List.flatMap_nil, List.append_nil]
    have := say_if (readsR r k) (leafR t k ((o[3 * t + k]?).getD 0))
    omega
theorem sayM_length (p : List (List Ins)) (o : List Int) (k : Nat) : (sayM p o k).length ≤ k := by
  induction k with
  | zero => simp [sayM]
  | succ k ih =>
    unfold sayM at ih ⊢
    rw [List.range_succ, List.flatMap_append, List.length_append]
    simp only [List.flatMap_cons, List.flatMap_nil, List.append_nil]
    have := say_if (writesP p k) (leafM k ((o[3 * p.length + k]?).getD 0))
    omega
theorem sayTo_length (p : List (List Ins)) (o : List Int) (j : Nat) : (sayTo p o j).length ≤ 3 * j := by
  induction j with
  | zero => simp [sayTo]
  | succ j ih =>
    unfold sayTo at ih ⊢
    rw [List.range_succ, List.flatMap_append, List.length_append]
    simp only [List.flatMap_cons, List.flatMap_nil, List.append_nil]
    cases h : p[j]? with
    | none => simp only [List.length_nil]; omega
    | some r => have := sayR_length j r o 3; simp only; omega

theorem mem_sayR {t : Nat} {r : List Ins} {o : List Int} {k : Nat} {u : Cs} (h : u ∈ sayR t r o k) : u.s = ⟨none, 0, 0⟩ := by
  unfold sayR at h
  rw [List.mem_flatMap] at h
  obtain ⟨g, -, h⟩ := h
  split at h
  · simp at h; rw [h]; rfl
  · simp at h
/-- Nothing that is said has parts. -/
theorem mem_said {p : List (List Ins)} {o : List Int} {u : Cs} (h : u ∈ saidL p o) : u.s = ⟨none, 0, 0⟩ := by
  unfold saidL at h
  rcases List.mem_append.1 h with h | h
  · unfold sayTo at h
    rw [List.mem_flatMap] at h
    obtain ⟨t, -, h⟩ := h
    cases hr : p[t]? with
    | none => rw [hr] at h; simp at h
    | some r => rw [hr] at h; exact mem_sayR h
  · unfold sayM at h
    rw [List.mem_flatMap] at h
    obtain ⟨l, -, h⟩ := h
    split at h
    · simp at h; rw [h]; rfl
    · simp at h
theorem saidL_length (p : List (List Ins)) (o : List Int) : (saidL p o).length ≤ 3 * p.length + 3 := by
  unfold saidL
  rw [List.length_append]
  have := sayTo_length p o p.length
  have := sayM_length p o 3
  omega

end Go.Proofs.Ytpnmphfdfadlcaa
