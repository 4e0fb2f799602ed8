/-
  Plain: the instructions of a program, conflicts and races.
-/
import Derived.Test.YtpnmphfdfadlcaaP2
namespace Go.Proofs.Ytpnmphfdfadlcaa

def rowIns (t k : Nat) : List Gp := (List.range k).map fun (i : Nat) => ⟨t, i⟩
def instrsTo (p : List (List Ins)) (j : Nat) : List Gp := (List.range j).flatMap fun t => match p[t]? with
  | some r => rowIns t r.length
  | none => []
def insAll (p : List (List Ins)) : List Gp := instrsTo p p.length

theorem rowIns_succ (t k : Nat) : rowIns t (k + 1) = rowIns t k ++ [⟨t, k⟩] := by simp [rowIns, List.range_succ]
theorem instrsTo_succ {p : List (List Ins)} {j : Nat} {r : List Ins} (h : p[j]? = some r) : instrsTo p (j + 1) = instrsTo p j ++ rowIns j r.length := by
  unfold instrsTo
  rw [List.range_succ, List.flatMap_append]
  simp [h]
theorem rowIns_length (t k : Nat) : (rowIns t k).length = k := by simp [rowIns]
theorem instrsTo_length (p : List (List Ins)) : ∀ j, j ≤ p.length → (instrsTo p j).length = (p.take j).flatten.length := by
  intro j
  induction j with
  | zero => intro _; simp [instrsTo]
  | succ j ih =>
    intro hj
    obtain ⟨r, hr⟩ := get_of_lt (xs := p) (k := j) hj
    rw [instrsTo_succ hr, List.take_add_one, hr, List.flatten_append, List.length_append, List.length_append, ih (by omega), rowIns_length]
    simp

theorem mem_instrsTo {p : List (List Ins)} {j : Nat} {g : Gp} (h : g ∈ instrsTo p j) : ∃ (t i : Nat) (r : List Ins) (x : Ins), g = ⟨t, i⟩ ∧ t < j ∧ p[t]? = some r ∧ r[i]? = some x := by
  unfold instrsTo at h
  rw [List.mem_flatMap] at h
  obtain ⟨t, ht, hg⟩ := h
  cases hr : p[t]? with
  | none => rw [hr] at hg; simp at hg
  | some r =>
    rw [hr] at hg
    simp only [rowIns, List.mem_map, List.mem_range] at hg
    obtain ⟨i, hi, rfl⟩ := hg
    obtain ⟨x, hx⟩ := get_of_lt (xs := r) (k := i) hi
    exact ⟨t, i, r, x, rfl, by simpa using ht, hr, hx⟩

def insAt (p : List (List Ins)) (g : Gp) : Option Ins := (p[g.t.toNat]?).bind fun r => r[g.i.toNat]?
theorem insAt_eq {p : List (List Ins)} {t i : Nat} {r : List Ins} {x : Ins} (hr : p[t]? = some r) (hx : r[i]? = some x) : insAt p ⟨t, i⟩ = some x := by simp [insAt, hr, hx]

def conflictR (o l o2 l2 : Int) : Bool := o != 4 && o2 != 4 && l == l2 && (isWop o || isWop o2)
def conflictB (x y : Ins) : Bool := conflictR x.op x.loc y.op y.loc
def plainB (x : Ins) : Bool := x.op != 5
def raceB (p : List (List Ins)) (a b : Gp) : Bool := decide (a.t < b.t) && match insAt p a, insAt p b with
  | some x, some y => conflictB x y && (plainB x || plainB y)
  | _, _ => false

structure Rc where
  a : Gp
  b : Gp
deriving DecidableEq
def RcE : El Rc := ⟨4, by decide, fun x => [.int .i64 x.a.t, .int .i64 x.a.i, .int .i64 x.b.t, .int .i64 x.b.i], fun _ => rfl, fun x u h => by simp at h; rcases h with rfl | rfl | rfl | rfl <;> rfl⟩

def racesOf (p : List (List Ins)) (a : Gp) (L : List Gp) : List Rc := (L.filter (raceB p a)).map fun b => ⟨a, b⟩
def racesTo (p : List (List Ins)) (L : List Gp) : List Rc := L.flatMap fun a => racesOf p a (insAll p)
def racesP (p : List (List Ins)) : List Rc := racesTo p (insAll p)
def racesV (p : List (List Ins)) : List Rc := if progValid p = true then racesP p else []

theorem racesOf_succ (p : List (List Ins)) (a : Gp) {L : List Gp} {m : Nat} {b : Gp} (h : L[m]? = some b) : racesOf p a (L.take (m + 1)) = racesOf p a (L.take m) ++ if raceB p a b = true then [⟨a, b⟩] else [] := by
  unfold racesOf
  rw [List.take_add_one, h, List.filter_append, List.map_append]
  by_cases e : raceB p a b = true <;> simp [e]
theorem racesOf_snoc (p : List (List Ins)) (a : Gp) (L : List Gp) (b : Gp) : racesOf p a (L ++ [b]) = racesOf p a L ++ if raceB p a b = true then [⟨a, b⟩] else [] := by
  unfold racesOf
  rw [List.filter_append, List.map_append]
  by_cases e : raceB p a b = true <;> simp [e]
theorem racesTo_succ (p : List (List Ins)) {L : List Gp} {k : Nat} {a : Gp} (h : L[k]? = some a) : racesTo p (L.take (k + 1)) = racesTo p (L.take k) ++ racesOf p a (insAll p) := by
  unfold racesTo
  rw [List.take_add_one, h, List.flatMap_append]; simp
theorem racesOf_length (p : List (List Ins)) (a : Gp) (L : List Gp) : (racesOf p a L).length ≤ L.length := by
  unfold racesOf; rw [List.length_map]; exact List.length_filter_le _ _
theorem racesTo_length (p : List (List Ins)) (L : List Gp) : (racesTo p L).length ≤ L.length * (insAll p).length := by
  unfold racesTo
  induction L with
  | nil => simp
  | cons a L ih =>
    rw [List.flatMap_cons, List.length_append, List.length_cons, Nat.add_mul]
    have := racesOf_length p a (insAll p)
    omega

theorem raceB_eq {p : List (List Ins)} {t i u k : Nat} {r s : List Ins} {x y : Ins} (hr : p[t]? = some r) (hx : r[i]? = some x) (hs : p[u]? = some s) (hy : s[k]? = some y) :
    raceB p ⟨t, i⟩ ⟨u, k⟩ = (decide ((t : Int) < u) && (conflictB x y && (plainB x || plainB y))) := by
  unfold raceB; rw [insAt_eq hr hx, insAt_eq hs hy]

end Go.Proofs.Ytpnmphfdfadlcaa
